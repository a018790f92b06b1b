/- ReadG3: contract of the reference's ReadGame. Conditions: the text's length in range. -/
import Derived.Test.YtkaojpcpfbbicaaDoorReadG1
import Derived.Test.YtkaojpcpfbbicaaDoorRead3
import Derived.Test.YtkaojpcpfbbicaaDoorGameT
import Derived.Deep.Cut
import Derived.IntWalk
set_option linter.unusedVariables false
set_option linter.unusedSimpArgs false
namespace Peg
/-- the reader behind k bytes; behind the end's own round at last -/
def rAt (rj : List UInt8 → Option Ln) (s : List UInt8) (k : Nat) : Option RSt :=
  if k ≤ s.length then runS rj ⟨[], [], []⟩ (s.take k) else (runS rj ⟨[], [], []⟩ s).bind (flushS rj)
theorem rAt_zero (rj : List UInt8 → Option Ln) (s : List UInt8) : rAt rj s 0 = some ⟨[], [], []⟩ := by simp [rAt, runS]
theorem rAt_next {rj : List UInt8 → Option Ln} {s : List UInt8} {k : Nat} {st : RSt} (hk : k < s.length) (h : rAt rj s k = some st) : rAt rj s (k + 1) = stepS rj st (gD s 0 k) := by
  unfold rAt at *
  rw [if_pos (by omega)] at h
  rw [if_pos (by omega), take_gD s 0 k hk, runS_append, h]
  show runS rj st [gD s 0 k] = _
  rw [runS]
  cases stepS rj st (gD s 0 k) <;> rfl
theorem rAt_last {rj : List UInt8 → Option Ln} {s : List UInt8} {st : RSt} (h : rAt rj s s.length = some st) : rAt rj s (s.length + 1) = flushS rj st := by
  unfold rAt at *
  rw [if_pos (Nat.le_refl _), List.take_length] at h
  rw [if_neg (by omega), h]
  rfl
theorem rAt_none {rj : List UInt8 → Option Ln} {s : List UInt8} {k : Nat} (hk : k ≤ s.length + 1) (h : rAt rj s k = none) : readSp rj s = none := by
  unfold rAt at h
  unfold readSp
  by_cases hl : k ≤ s.length
  · rw [if_pos hl] at h
    have : runS rj ⟨[], [], []⟩ s = none := by
      conv => lhs; rw [← List.take_append_drop k s]
      rw [runS_append, h]; rfl
    rw [this]; rfl
  · rw [if_neg hl] at h
    rw [h]; rfl
theorem rAt_end {rj : List UInt8 → Option Ln} {s : List UInt8} {st : RSt} (h : rAt rj s (s.length + 1) = some st) : readSp rj s = some st.out := by
  unfold rAt at h
  rw [if_neg (by omega)] at h
  unfold readSp
  rw [h]; rfl
end Peg
namespace Go.Proofs.YtkaojpcpfbbicaaDoor
open Go.ChangeShapes Go.WideShapes Go.ChangeAt Go.RowKit Peg Go.Sort
set_option maxHeartbeats 4000000 in
set_option maxRecDepth 100000 in
theorem sReadGame_any (a b o : Int) (s : ByteArray) (hs : s.size ≤ 1048576) (w : World) :
    Calls Tryd.prog 24 #[.agg #[.int .i64 a, .int .i64 b, .int .i64 o], .string s] w (RetRG w (readGS a b o s)) := by
  have HRJ : Hid (∀ x W, Calls Tryd.prog 21 #[.agg #[.int .i64 a, .int .i64 b, .int .i64 o], .string x] W fun e w' => e = .returned (optLn (readJump a b o x)) ∧ Below W.heap.size W w') := fun x W => sReadJump_any a b o x W
  have HGT : Hid (∀ L v B W, Own ELine W B v L → Calls Tryd.prog 17 #[.agg #[.int .i64 a, .int .i64 b, .int .i64 o], v] W fun e w' => e = .returned (.string (gameText a b o L)) ∧ Below W.heap.size W w') := fun L v B W h => sGameText_any a b o L v W h
  have HGS : Hid (readGS a b o s = match (if s.size ≤ 400 then readSp (rjB a b o) s.data.toList else some []) with
    | none => none
    | some L => if L = [] ∨ gameText a b o L ≠ s then none else some L) := rfl
  by_cases hbig : 400 < s.size
  · have HR : Hid (readGS a b o s = none) := by show _ = _; rw [HGS.out, if_neg (by omega)]; simp
    rw [HR.out]
    clear HR HGS HRJ HGT
    go_enter Tryd.func24, Tryd.ntmps24
    go_wp2_with fail
    have hd : decide ((s.size : Int) ≤ 400) = false := decide_eq_false (by omega)
    have hd2 : ¬ (s.size : Int) ≤ 400 := by omega
    refine wp_loop_rounds 1 ?_
    rw [rounds_succ]
    go_wp2_with fail
    go_ret2
    exact ⟨_, rfl, Own.emptyAny _ _ _ _, by (repeat' first | (with_reducible exact Below.refl _ _) | (with_reducible refine Below.alloc ?_ ?_ _) | (with_reducible refine Below.drew ?_) | (with_reducible refine Below.setCell ?_ ?_ _) | (with_reducible refine below_via (by assumption) ?_ ?_) | go_size)⟩
  have HR : Hid (readGS a b o s = match readSp (rjB a b o) s.data.toList with
    | none => none
    | some L => if L = [] ∨ gameText a b o L ≠ s then none else some L) := by show _ = _; rw [HGS.out, if_pos (by omega)]
  have hl : s.data.toList.length = s.size := by rw [Array.length_toList]; rfl
  have HLN := Lib.hid hl
  have HZ := Lib.hid (rAt_zero (rjB a b o) s.data.toList)
  have HNX := Lib.hid (fun k st => @rAt_next (rjB a b o) s.data.toList k st)
  have HLS := Lib.hid (fun st => @rAt_last (rjB a b o) s.data.toList st)
  have HNO := Lib.hid (fun k => @rAt_none (rjB a b o) s.data.toList k)
  have HEN := Lib.hid (fun st => @rAt_end (rjB a b o) s.data.toList st)
  have HBY : Hid (∀ k (h : k < s.size), gD s.data.toList 0 k = s[k]) := fun k h => by
    rw [gD_lt _ _ _ (by rw [hl]; exact h)]; rfl
  rw [hl] at HLS HNO HEN HNX
  clear HGS hl
  go_enter Tryd.func24, Tryd.ntmps24
  go_wp2_with fail
  go_loopw [6, 7, 8, 9] (fun v sl sw i wr => ∃ (k : Nat) (st : RSt) (bl bw : ByteArray), k ≤ s.size + 1 ∧ i = .int .i64 k ∧ sl = .string bl ∧ sw = .string bw ∧ Hid (bl.data.toList = st.last) ∧ Hid (bw.data.toList = st.word) ∧ bl.size ≤ k ∧ bw.size ≤ k ∧ Hid (Own ELine wr (w.heap.size + 1) v st.out) ∧ st.out.length ≤ k ∧ Hid (rAt (rjB a b o) s.data.toList k = some st) ∧ (∀ j, wr.cell? ⟨w.heap.size, j, none⟩ = #[Value.int .i64 a, .int .i64 b, .int .i64 o][j]?) ∧ w.heap.size < wr.heap.size ∧ Hid (Below w.heap.size w wr)) (fun _ _ _ i _ => s.size + 2 - (intOf i).toNat)
  case atStart => exact ⟨0, ⟨[], [], []⟩, ⟨#[]⟩, ⟨#[]⟩, by omega, rfl, rfl, rfl, by show _ = _; rfl, by show _ = _; rfl, by simp [ByteArray.size], by simp [ByteArray.size], by show Own _ _ _ _ _; exact Own.emptyAny _ _ _ _, by simp, HZ, fun j => by simp, by simp; omega, by show Below _ _ _; (repeat' first | (with_reducible exact Below.refl _ _) | (with_reducible refine Below.alloc ?_ ?_ _) | (with_reducible refine Below.drew ?_) | (with_reducible refine Below.setCell ?_ ?_ _) | (with_reducible refine below_via (by assumption) ?_ ?_) | go_size)⟩
  case round =>
    obtain ⟨k, st, bl, bw, hk, rfl, rfl, rfl, HBL, HBW, hbl, hbw, HOW, hol, HST, hbx, hzr, HBr⟩ := hrel
    obtain ⟨aD, cD, rfl, -, -⟩ := HOW.out.lineG
    have h4 : (s.size : Int) ≤ 400 := by omega
    have h4d : decide ((s.size : Int) ≤ 400) = true := decide_eq_true h4
    by_cases hke : k = s.size + 1
    · subst hke
      have hd : decide (((s.size + 1 : Nat) : Int) ≤ (s.size : Int)) = false := decide_eq_false (by omega)
      have hd2 : ¬ ((s.size : Int) + 1) ≤ (s.size : Int) := by omega
      have hd3 : decide (((s.size : Int) + 1) ≤ (s.size : Int)) = false := decide_eq_false (by omega)
      have HVE : Hid (readSp (rjB a b o) s.data.toList = some st.out) := HEN.out st HST.out
      have HRV : Hid (readGS a b o s = if st.out = [] ∨ gameText a b o st.out ≠ s then none else some st.out) := by show _ = _; rw [HR.out, HVE.out]
      have HG1 := Lib.hid (HGT.out st.out _ _ wr HOW.out)
      by_cases hoe : st.out = []
      · have HN1 : Hid (readGS a b o s = none) := by show _ = _; rw [HRV.out, if_pos (Or.inl hoe)]
        have hl0 : ((st.out.length : Int) == 0) = true := by rw [hoe]; rfl
        go_wp2_with fail
        all_goals go_ret2
        all_goals (unfold RetRG; rw [HN1.out]; exact ⟨_, rfl, Own.emptyAny _ _ _ _, HBr.out.alloc HBr.out.size _⟩)
      · have hl0 : ((st.out.length : Int) == 0) = false := by rw [beq_eq_false_iff_ne]; intro e; exact hoe (List.eq_nil_of_length_eq_zero (by omega))
        go_wp2_with fail
        refine HG1.out.mono ?_
        rintro e w5 ⟨rfl, hb5⟩
        by_cases hge : gameText a b o st.out = s
        · have HN1 : Hid (readGS a b o s = some st.out) := by show _ = _; rw [HRV.out, if_neg]; intro h; rcases h with h | h; exact hoe h; exact h hge
          rw [hge]
          have HB5 := Lib.hid (HBr.out.trans (hb5.mono HBr.out.size))
          have HO5 := Lib.hid (HOW.out.keep hb5)
          clear hb5 hge HRV
          go_wp2_with fail
          all_goals go_ret2
          all_goals (unfold RetRG; rw [HN1.out]; exact ⟨_, rfl, HO5.out.mono (by omega), HB5.out⟩)
        · have HN1 : Hid (readGS a b o s = none) := by show _ = _; rw [HRV.out, if_pos (Or.inr hge)]
          have hne : ((gameText a b o st.out).toList == s.toList) = false := str_neS hge
          have HB5 := Lib.hid (HBr.out.trans (hb5.mono HBr.out.size))
          clear hb5 HRV
          generalize gameText a b o st.out = gt at *
          go_wp2_with fail
          all_goals go_ret2
          all_goals (unfold RetRG; rw [HN1.out]; exact ⟨_, rfl, Own.emptyAny _ _ _ _, HB5.out.alloc HB5.out.size _⟩)
    · have hks : k ≤ s.size := by omega
      have hkd : decide ((k : Int) ≤ (s.size : Int)) = true := decide_eq_true (by omega)
      have hk0 : (0 : Int) ≤ (k : Int) := by omega
      by_cases hpl : ∃ h : k < s.size, s[k] ≠ 45 ∧ s[k] ≠ 32
      · obtain ⟨hkl, hx1, hx2⟩ := hpl
        have hkld : decide ((k : Int) < (s.size : Int)) = true := decide_eq_true (by omega)
        have hkld2 : (k : Int) < (s.size : Int) := by omega
        have hn1 : s[k].toNat ≠ 45 := fun e => hx1 (UInt8.toNat_inj.1 e)
        have hn2 : s[k].toNat ≠ 32 := fun e => hx2 (UInt8.toNat_inj.1 e)
        have e1 : ¬ (s[k].toNat : Int) = 45 := by omega
        have e2 : ((s[k].toNat : Int) != 45) = true := by simp; omega
        have e3 : ¬ (s[k].toNat : Int) = 32 := by omega
        have e4 : ((s[k].toNat : Int) != 32) = true := by simp; omega
        have hk1 : (k : Int) ≤ (k : Int) + 1 := by omega
        have hk2 : (k : Int) + 1 ≤ (s.size : Int) := by omega
        have hex : (s.extract k (k + 1)).size = 1 := by simp [ByteArray.size_extract]; omega
        have HXL : Hid ((bw ++ s.extract k (k + 1)).data.toList = st.word ++ [s[k]]) := by
          show _ = _
          rw [ByteArray.data_append, Array.toList_append, HBW.out, ByteArray.data_extract, Array.toList_extract]
          congr 1
          have hkl2 : k < s.data.toList.length := by rw [HLN.out]; exact hkl
          have e : (s.data.toList.extract k (k + 1)) = [s.data.toList[k]] := by
            simp only [List.extract]
            rw [List.drop_eq_getElem_cons hkl2, show k + 1 - k = 1 from by omega]
            rfl
          first
            | exact e
            | (rw [List.drop_eq_getElem_cons hkl2, show k + 1 - k = 1 from by omega]; rfl)
        have HNS : Hid (rAt (rjB a b o) s.data.toList (k + 1) = some ⟨st.out, st.last, st.word ++ [s[k]]⟩) := by
          show _ = _
          rw [HNX.out k st hkl HST.out, HBY.out k hkl, stepS, if_pos ⟨hx1, hx2⟩]
        clear hx1 hx2
        go_wp2_with fail
        all_goals exact ⟨⟨k + 1, ⟨st.out, st.last, st.word ++ [s[k]]⟩, bl, bw ++ s.extract k (k + 1), by omega, by go_num, rfl, rfl, HBL, HXL, by omega, by rw [ByteArray.size_append, hex]; omega, HOW, by show st.out.length ≤ k + 1; omega, HNS, hbx, hzr, HBr⟩, by simp [intOf]; omega⟩
      · -- the bounds of a word: a separator, or the end
        obtain ⟨sp, hsp⟩ : ∃ sp : Bool, sp = decide (∃ h : k < s.size, s[k] = 32) := ⟨_, rfl⟩
        have HFL : Hid (∀ t, flushS (rjB a b o) st = some t → rAt (rjB a b o) s.data.toList (k + 1) = some (if sp = true then ⟨t.out, [], t.word⟩ else t)) := fun t ht => by
          by_cases hkl : k < s.size
          · rw [HNX.out k st hkl HST.out, HBY.out k hkl, stepS, if_neg (fun h => hpl ⟨hkl, h⟩), ht, hsp]
            simp [hkl]
          · obtain rfl : k = s.size := by omega
            rw [HLS.out st HST.out, ht, hsp]
            simp
        have HFN : Hid (flushS (rjB a b o) st = none → readSp (rjB a b o) s.data.toList = none) := fun ht => by
          refine HNO.out (k + 1) (by omega) ?_
          by_cases hkl : k < s.size
          · rw [HNX.out k st hkl HST.out, HBY.out k hkl, stepS, if_neg (fun h => hpl ⟨hkl, h⟩), ht]; rfl
          · obtain rfl : k = s.size := by omega
            rw [HLS.out st HST.out, ht]
        have HFD : Hid (flushS (rjB a b o) st = if st.last ≠ [] then match rjB a b o (st.last ++ 45 :: st.word) with
            | none => none
            | some l => some ⟨st.out ++ [l], st.word, []⟩
          else some ⟨st.out, st.word, []⟩) := rfl
        have hthree : (k = s.size ∧ sp = false) ∨ (∃ h : k < s.size, s[k] = 45 ∧ sp = false) ∨ (∃ h : k < s.size, s[k] = 32 ∧ sp = true) := by
          by_cases hkl : k < s.size
          · by_cases h45 : s[k] = 45
            · exact Or.inr (Or.inl ⟨hkl, h45, by rw [hsp, decide_eq_false]; rintro ⟨_, h⟩; rw [h45] at h; cases h⟩)
            · by_cases h32 : s[k] = 32
              · exact Or.inr (Or.inr ⟨hkl, h32, by rw [hsp, decide_eq_true]; exact ⟨hkl, h32⟩⟩)
              · exact absurd ⟨hkl, h45, h32⟩ hpl
          · exact Or.inl ⟨by omega, by rw [hsp, decide_eq_false]; rintro ⟨h, _⟩; exact hkl h⟩
        have hbe : bl.toList = st.last := by rw [Go.Lib.toList_data]; exact HBL.out
        clear hpl hsp
        by_cases hlast : st.last = []
        · have hE1 : bl.toList.isEmpty = true := by rw [hbe, hlast]; rfl
          have hE2 : (!bl.toList.isEmpty) = false := by rw [hE1]; rfl
          have HFS : Hid (rAt (rjB a b o) s.data.toList (k + 1) = some ⟨st.out, if sp = true then [] else st.word, []⟩) := by
            show _ = _
            rw [HFL.out ⟨st.out, st.word, []⟩ (by rw [HFD.out, if_neg (by simpa using hlast)])]
            cases sp <;> rfl
          clear hlast hbe
          rcases hthree with ⟨rfl, rfl⟩ | ⟨hkl, hx, rfl⟩ | ⟨hkl, hx, rfl⟩
          · have q1 : decide ((s.size : Int) < (s.size : Int)) = false := decide_eq_false (by omega)
            go_wp2_with fail
            all_goals exact ⟨⟨s.size + 1, ⟨st.out, st.word, []⟩, bw, ⟨#[]⟩, by omega, by go_num, rfl, rfl, HBW, by show _ = _; rfl, by omega, Nat.zero_le _, HOW, by show st.out.length ≤ s.size + 1; omega, HFS, hbx, hzr, HBr⟩, by simp [intOf] <;> omega⟩
          · have q1 : decide ((k : Int) < (s.size : Int)) = true := decide_eq_true (by omega)
            have q2 : (k : Int) < (s.size : Int) := by omega
            have q3 : (s[k].toNat : Int) = 45 := by rw [hx]; rfl
            have q4 : ((s[k].toNat : Int) != 45) = false := by rw [q3]; rfl
            have q5 : ((s[k].toNat : Int) == 32) = false := by rw [q3]; rfl
            go_wp2_with fail
            all_goals exact ⟨⟨k + 1, ⟨st.out, st.word, []⟩, bw, ⟨#[]⟩, by omega, by go_num, rfl, rfl, HBW, by show _ = _; rfl, by omega, Nat.zero_le _, HOW, by show st.out.length ≤ k + 1; omega, HFS, hbx, hzr, HBr⟩, by simp [intOf] <;> omega⟩
          · have q1 : decide ((k : Int) < (s.size : Int)) = true := decide_eq_true (by omega)
            have q2 : (k : Int) < (s.size : Int) := by omega
            have q3 : (s[k].toNat : Int) = 32 := by rw [hx]; rfl
            have q4 : ((s[k].toNat : Int) != 45) = true := by rw [q3]; rfl
            have q5 : ((s[k].toNat : Int) == 32) = true := by rw [q3]; rfl
            have q6 : ((s[k].toNat : Int) != 32) = false := by rw [q3]; rfl
            have q7 : ¬ (s[k].toNat : Int) = 45 := by rw [q3]; omega
            go_wp2_with fail
            all_goals exact ⟨⟨k + 1, ⟨st.out, [], []⟩, ⟨#[]⟩, ⟨#[]⟩, by omega, by go_num, rfl, rfl, by show _ = _; rfl, by show _ = _; rfl, Nat.zero_le _, Nat.zero_le _, HOW, by show st.out.length ≤ k + 1; omega, HFS, hbx, hzr, HBr⟩, by simp [intOf] <;> omega⟩
        · have hE1 : bl.toList.isEmpty = false := by rw [hbe]; simpa using hlast
          have hE2 : (!bl.toList.isEmpty) = true := by rw [hE1]; rfl
          have HXE : Hid (rjB a b o (st.last ++ 45 :: st.word) = readJump a b o (bl ++ ⟨#[45]⟩ ++ bw)) := by
            show _ = _
            unfold rjB
            congr 1
            refine ba_ext ?_
            rw [ByteArray.data_append, ByteArray.data_append, Array.toList_append, Array.toList_append, HBL.out, HBW.out]
            simp
          have HJ := Lib.hid (HRJ.out (bl ++ ⟨#[45]⟩ ++ bw))
          have HFD2 : Hid (flushS (rjB a b o) st = match readJump a b o (bl ++ ⟨#[45]⟩ ++ bw) with
              | none => none
              | some l => some ⟨st.out ++ [l], st.word, []⟩) := by show _ = _; rw [HFD.out, if_pos hlast, HXE.out]
          clear hlast hbe HFD HXE
          have z1 : (bl ++ ⟨#[45]⟩ : ByteArray).size = bl.size + 1 := by rw [ByteArray.size_append]; rfl
          have z2 : (bl ++ ⟨#[45]⟩ ++ bw : ByteArray).size = bl.size + 1 + bw.size := by rw [ByteArray.size_append, z1]
          simp only [optLn] at HJ
          cases hrj : readJump a b o (bl ++ ⟨#[45]⟩ ++ bw) with
          | none =>
            have HN1 : Hid (readGS a b o s = none) := by show _ = _; rw [HR.out, HFN.out (by rw [HFD2.out, hrj])]
            rw [hrj] at HJ
            clear hrj HFD2
            have hf3 : (decide ((k : Int) < (s.size : Int)) = false ∧ sp = false) ∨ (∃ h : k < s.size, (s[k].toNat : Int) = 45 ∧ sp = false) ∨ (∃ h : k < s.size, (s[k].toNat : Int) = 32 ∧ sp = true) := by
              rcases hthree with ⟨h1, h2⟩ | ⟨h, h1, h2⟩ | ⟨h, h1, h2⟩
              · exact Or.inl ⟨decide_eq_false (by omega), h2⟩
              · exact Or.inr (Or.inl ⟨h, by rw [h1]; rfl, h2⟩)
              · exact Or.inr (Or.inr ⟨h, by rw [h1]; rfl, h2⟩)
            clear hthree
            rcases hf3 with ⟨q1, rfl⟩ | ⟨hkl, q3, rfl⟩ | ⟨hkl, q3, rfl⟩
            rotate_left
            · have q1 : decide ((k : Int) < (s.size : Int)) = true := decide_eq_true (by omega)
              have q2 : (k : Int) < (s.size : Int) := by omega
              have q4 : ((s[k].toNat : Int) != 45) = false := by rw [q3]; rfl
              have q5 : ((s[k].toNat : Int) == 32) = false := by rw [q3]; rfl
              go_wp2_with (go_at_call 21; refine (HJ.out _).mono ?_; rintro e w5 ⟨rfl, hb5⟩; have HB5 := Lib.hid (HBr.out.trans (hb5.mono HBr.out.size)); have hz5 := hb5.size; clear hb5)
              all_goals go_ret2
              all_goals (unfold RetRG; rw [HN1.out]; exact ⟨_, rfl, Own.emptyAny _ _ _ _, (HB5.out.alloc HB5.out.size _).alloc (by simp; omega) _⟩)
            · have q1 : decide ((k : Int) < (s.size : Int)) = true := decide_eq_true (by omega)
              have q2 : (k : Int) < (s.size : Int) := by omega
              have q4 : ((s[k].toNat : Int) != 45) = true := by rw [q3]; rfl
              have q5 : ((s[k].toNat : Int) == 32) = true := by rw [q3]; rfl
              have q6 : ((s[k].toNat : Int) != 32) = false := by rw [q3]; rfl
              have q7 : ¬ (s[k].toNat : Int) = 45 := by rw [q3]; omega
              go_wp2_with (go_at_call 21; refine (HJ.out _).mono ?_; rintro e w5 ⟨rfl, hb5⟩; have HB5 := Lib.hid (HBr.out.trans (hb5.mono HBr.out.size)); have hz5 := hb5.size; clear hb5)
              all_goals go_ret2
              all_goals (unfold RetRG; rw [HN1.out]; exact ⟨_, rfl, Own.emptyAny _ _ _ _, (HB5.out.alloc HB5.out.size _).alloc (by simp; omega) _⟩)
            · have q2 : ¬ (k : Int) < (s.size : Int) := of_decide_eq_false q1
              go_wp2_with (go_at_call 21; refine (HJ.out _).mono ?_; rintro e w5 ⟨rfl, hb5⟩; have HB5 := Lib.hid (HBr.out.trans (hb5.mono HBr.out.size)); have hz5 := hb5.size; clear hb5)
              all_goals go_ret2
              all_goals (unfold RetRG; rw [HN1.out]; exact ⟨_, rfl, Own.emptyAny _ _ _ _, (HB5.out.alloc HB5.out.size _).alloc (by simp; omega) _⟩)
          | some l =>
            have HFS : Hid (rAt (rjB a b o) s.data.toList (k + 1) = some ⟨st.out ++ [l], if sp = true then [] else st.word, []⟩) := by
              show _ = _
              rw [HFL.out ⟨st.out ++ [l], st.word, []⟩ (by rw [HFD2.out, hrj])]
              cases sp <;> rfl
            rw [hrj] at HJ
            clear hrj HFD2
            have hf3 : (decide ((k : Int) < (s.size : Int)) = false ∧ sp = false) ∨ (∃ h : k < s.size, (s[k].toNat : Int) = 45 ∧ sp = false) ∨ (∃ h : k < s.size, (s[k].toNat : Int) = 32 ∧ sp = true) := by
              rcases hthree with ⟨h1, h2⟩ | ⟨h, h1, h2⟩ | ⟨h, h1, h2⟩
              · exact Or.inl ⟨decide_eq_false (by omega), h2⟩
              · exact Or.inr (Or.inl ⟨h, by rw [h1]; rfl, h2⟩)
              · exact Or.inr (Or.inr ⟨h, by rw [h1]; rfl, h2⟩)
            clear hthree
            rcases hf3 with ⟨q1, rfl⟩ | ⟨hkl, q3, rfl⟩ | ⟨hkl, q3, rfl⟩
            rotate_left
            · have q1 : decide ((k : Int) < (s.size : Int)) = true := decide_eq_true (by omega)
              have q2 : (k : Int) < (s.size : Int) := by omega
              have q4 : ((s[k].toNat : Int) != 45) = false := by rw [q3]; rfl
              have q5 : ((s[k].toNat : Int) == 32) = false := by rw [q3]; rfl
              go_wp2_with (first | (go_at_call 21; refine (HJ.out _).mono ?_; rintro e w5 ⟨rfl, hb5⟩; have HB5 := Lib.hid (HBr.out.trans (hb5.mono HBr.out.size)); have hz5 := hb5.size; have hown6 := (HOW.out.keep hb5).alloc (.cells #[.int .i64 l.f, .int .i64 l.o, .int .i64 l.t] 31); have hx5 : ∀ j, w5.cell? ⟨w.heap.size, j, none⟩ = #[Value.int .i64 a, .int .i64 b, .int .i64 o][j]? := fun j => (hb5.cell (p := ⟨w.heap.size, j, none⟩) hzr).trans (hbx j); clear hb5) | (at_builtin; (refine append1 (E := ELine) (l := st.out) rfl rfl _ _ 37 rfl Tryd.underlying37 rfl hown6 l (by simp only [World.size_alloc]; rfl) (by omega) (by simp only [World.size_alloc]; omega) ?_); intro v' w7 hown7 hb7 hg7))
              all_goals have hz7 := hb7.size
              all_goals simp only [World.size_alloc] at hz7
              all_goals exact ⟨⟨k + 1, ⟨st.out ++ [l], st.word, []⟩, bw, ⟨#[]⟩, by omega, by go_num, rfl, rfl, HBW, by show _ = _; rfl, by omega, Nat.zero_le _, by show Own _ _ _ _ _; exact hown7, by have hla : (st.out ++ [l]).length = st.out.length + 1 := List.length_append; show (st.out ++ [l]).length ≤ _; omega, HFS, fun j => (hb7.cell (p := ⟨w.heap.size, j, none⟩) (by show w.heap.size < _; omega)).trans ((((Below.refl w5.heap.size w5).alloc (Nat.le_refl _) (.cells #[.int .i64 l.f, .int .i64 l.o, .int .i64 l.t] 31)).cell (p := ⟨w.heap.size, j, none⟩) (by show w.heap.size < w5.heap.size; omega)).trans (hx5 j)), by omega, by show Below _ _ _; exact (HB5.out.alloc HB5.out.size _).trans (hb7.mono (by omega))⟩, by simp [intOf] <;> omega⟩
            · have q1 : decide ((k : Int) < (s.size : Int)) = true := decide_eq_true (by omega)
              have q2 : (k : Int) < (s.size : Int) := by omega
              have q4 : ((s[k].toNat : Int) != 45) = true := by rw [q3]; rfl
              have q5 : ((s[k].toNat : Int) == 32) = true := by rw [q3]; rfl
              have q6 : ((s[k].toNat : Int) != 32) = false := by rw [q3]; rfl
              have q7 : ¬ (s[k].toNat : Int) = 45 := by rw [q3]; omega
              go_wp2_with (first | (go_at_call 21; refine (HJ.out _).mono ?_; rintro e w5 ⟨rfl, hb5⟩; have HB5 := Lib.hid (HBr.out.trans (hb5.mono HBr.out.size)); have hz5 := hb5.size; have hown6 := (HOW.out.keep hb5).alloc (.cells #[.int .i64 l.f, .int .i64 l.o, .int .i64 l.t] 31); have hx5 : ∀ j, w5.cell? ⟨w.heap.size, j, none⟩ = #[Value.int .i64 a, .int .i64 b, .int .i64 o][j]? := fun j => (hb5.cell (p := ⟨w.heap.size, j, none⟩) hzr).trans (hbx j); clear hb5) | (at_builtin; (refine append1 (E := ELine) (l := st.out) rfl rfl _ _ 37 rfl Tryd.underlying37 rfl hown6 l (by simp only [World.size_alloc]; rfl) (by omega) (by simp only [World.size_alloc]; omega) ?_); intro v' w7 hown7 hb7 hg7))
              all_goals have hz7 := hb7.size
              all_goals simp only [World.size_alloc] at hz7
              all_goals exact ⟨⟨k + 1, ⟨st.out ++ [l], [], []⟩, ⟨#[]⟩, ⟨#[]⟩, by omega, by go_num, rfl, rfl, by show _ = _; rfl, by show _ = _; rfl, Nat.zero_le _, Nat.zero_le _, by show Own _ _ _ _ _; exact hown7, by have hla : (st.out ++ [l]).length = st.out.length + 1 := List.length_append; show (st.out ++ [l]).length ≤ _; omega, HFS, fun j => (hb7.cell (p := ⟨w.heap.size, j, none⟩) (by show w.heap.size < _; omega)).trans ((((Below.refl w5.heap.size w5).alloc (Nat.le_refl _) (.cells #[.int .i64 l.f, .int .i64 l.o, .int .i64 l.t] 31)).cell (p := ⟨w.heap.size, j, none⟩) (by show w.heap.size < w5.heap.size; omega)).trans (hx5 j)), by omega, by show Below _ _ _; exact (HB5.out.alloc HB5.out.size _).trans (hb7.mono (by omega))⟩, by simp [intOf] <;> omega⟩
            · have q2 : ¬ (k : Int) < (s.size : Int) := of_decide_eq_false q1
              go_wp2_with (first | (go_at_call 21; refine (HJ.out _).mono ?_; rintro e w5 ⟨rfl, hb5⟩; have HB5 := Lib.hid (HBr.out.trans (hb5.mono HBr.out.size)); have hz5 := hb5.size; have hown6 := (HOW.out.keep hb5).alloc (.cells #[.int .i64 l.f, .int .i64 l.o, .int .i64 l.t] 31); have hx5 : ∀ j, w5.cell? ⟨w.heap.size, j, none⟩ = #[Value.int .i64 a, .int .i64 b, .int .i64 o][j]? := fun j => (hb5.cell (p := ⟨w.heap.size, j, none⟩) hzr).trans (hbx j); clear hb5) | (at_builtin; (refine append1 (E := ELine) (l := st.out) rfl rfl _ _ 37 rfl Tryd.underlying37 rfl hown6 l (by simp only [World.size_alloc]; rfl) (by omega) (by simp only [World.size_alloc]; omega) ?_); intro v' w7 hown7 hb7 hg7))
              all_goals have hz7 := hb7.size
              all_goals simp only [World.size_alloc] at hz7
              all_goals exact ⟨⟨k + 1, ⟨st.out ++ [l], st.word, []⟩, bw, ⟨#[]⟩, by omega, by go_num, rfl, rfl, HBW, by show _ = _; rfl, by omega, Nat.zero_le _, by show Own _ _ _ _ _; exact hown7, by have hla : (st.out ++ [l]).length = st.out.length + 1 := List.length_append; show (st.out ++ [l]).length ≤ _; omega, HFS, fun j => (hb7.cell (p := ⟨w.heap.size, j, none⟩) (by show w.heap.size < _; omega)).trans ((((Below.refl w5.heap.size w5).alloc (Nat.le_refl _) (.cells #[.int .i64 l.f, .int .i64 l.o, .int .i64 l.t] 31)).cell (p := ⟨w.heap.size, j, none⟩) (by show w.heap.size < w5.heap.size; omega)).trans (hx5 j)), by omega, by show Below _ _ _; exact (HB5.out.alloc HB5.out.size _).trans (hb7.mono (by omega))⟩, by simp [intOf] <;> omega⟩
end Go.Proofs.YtkaojpcpfbbicaaDoor
