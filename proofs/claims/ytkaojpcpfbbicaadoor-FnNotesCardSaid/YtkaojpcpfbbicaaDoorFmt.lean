/- Fmt: contracts of FormatInt (both). Conditions: a number from 0; where it is 100 or more, the program's table of powers as the text lays it. -/
import Derived.Test.YtkaojpcpfbbicaaDoorShelfI
import Derived.Test.YtkaojpcpfbbicaaDoorBase
import Derived.Sort.Grow
import Derived.Laws.BytesString
set_option linter.unusedVariables false
set_option linter.unusedSimpArgs false
namespace Peg
def dText (n : Nat) : ByteArray := ⟨(Go.Lib.decDigits n).toArray⟩
def fmGo : Nat → Nat → List UInt8 → List UInt8
  | 0, _, acc => acc
  | f + 1, k, acc => if k = 0 then acc else fmGo f (k / 10) (UInt8.ofNat (48 + k % 10) :: acc)
theorem fmGo_digits : ∀ (f k : Nat) (acc : List UInt8), 0 < k → k ≤ f → fmGo f k acc = Go.Lib.decDigits k ++ acc
  | 0, k, acc, h, h' => by omega
  | f + 1, k, acc, h, h' => by
    rw [fmGo, if_neg (by omega), Go.Lib.decDigits]
    by_cases hk : k < 10
    · have e : k / 10 = 0 := by omega
      have e2 : k % 10 = k := by omega
      rw [dif_pos hk, e, e2]
      cases f <;> simp [fmGo]
    · rw [dif_neg hk, fmGo_digits f (k / 10) _ (by omega) (by omega)]
      simp
theorem cat1F (n : Nat) (acc : List UInt8) : ((⟨#[48 + UInt8.ofNat n]⟩ : ByteArray) ++ ⟨acc.toArray⟩) = ⟨(UInt8.ofNat (48 + n) :: acc).toArray⟩ := by
  have : (48 + UInt8.ofNat n : UInt8) = UInt8.ofNat (48 + n) := by simp
  rw [this]
  ext1
  simp
theorem below_growN (w : Go.World) (k : Nat) (os : Array Go.Obj) : Go.RowKit.Below w.heap.size w (Go.Sort.grow (w.drewN k) os) := ⟨rfl, rfl, rfl, by simp [Go.Sort.grow], fun g hg => by simp [Go.Sort.grow, Array.getElem?_append, hg]⟩
theorem decDigits_len (n : Nat) : 0 < (Go.Lib.decDigits n).length := by
  rw [Go.Lib.decDigits]; split <;> simp
theorem decDigits_len_le (n : Nat) (h : n ≤ 1000000) : (Go.Lib.decDigits n).length ≤ 7 := by
  rw [Go.Lib.decDigits]; split
  · simp
  rw [Go.Lib.decDigits]; split
  · simp
  rw [Go.Lib.decDigits]; split
  · simp
  rw [Go.Lib.decDigits]; split
  · simp
  rw [Go.Lib.decDigits]; split
  · simp
  rw [Go.Lib.decDigits]; split
  · simp
  rw [Go.Lib.decDigits]; split
  · simp
  omega
end Peg
namespace Go.Proofs.YtkaojpcpfbbicaaDoor
open Go.ChangeShapes Go.WideShapes Go.ChangeAt Go.RowKit Peg Go.Sort
/-- the program's own table of powers, as its text lays it -/
def HTab (w : World) : Prop := Lib.TabIs Tryd.prog w "internal/strconv.uint64pow10" .u64 Lib.pow10Tab
theorem gTab : ∃ g, Tryd.prog.globalNamed "internal/strconv.uint64pow10" = some g := Option.isSome_iff_exists.1 (by kernel_rfl)
theorem HTab.keep {w w' : World} (h : HTab w) (hb : Below w.heap.size w w') : HTab w' := by
  obtain ⟨g, hg⟩ := gTab
  unfold HTab Lib.TabIs World.var? at h ⊢
  rw [hg] at h ⊢
  simp only [Option.bind_some] at h ⊢
  have hlt : g < w.heap.size := by
    rcases Nat.lt_or_ge g w.heap.size with h' | h'
    · exact h'
    · rw [Array.getElem?_eq_none h'] at h; cases h
  rw [hb.block g hlt]
  exact h
theorem conv1F (n : Int) (w : World) :
    (convert 48 9 (.slice (some ⟨w.heap.size, 0, none⟩) 1 1)).run Tryd.prog (w.alloc (.cells #[.int .u8 n] 5)) = .ok (.string ⟨#[UInt8.ofNat n.toNat]⟩) (w.alloc (.cells #[.int .u8 n] 5)) := by
  rw [run_convert_bytes_string (P := Tryd.prog) _ _ _ 5 _ _ _ Tryd.underlying48 Tryd.underlying5 Tryd.underlying9]
  rw [run_bytesToString (P := Tryd.prog) _ ⟨w.heap.size, 0, none⟩ 1 1 [n] (by simp [go_sem, loadCells, loadCellsFrom])]
  rfl
theorem FormatInt_small (n : Nat) (hn : n < 100) (w : World) :
    Calls Tryd.prog 35 #[.int .i64 n] w fun e w' => e = .returned (.string (dText n)) ∧ Below w.heap.size w w' := by
  have HI : Hid (∀ W, Calls Tryd.prog 56 #[.int .i64 n] W fun e w' => e = .returned (.string (dText n)) ∧ w' = W) := fun W => Any.strconv_Itoa_small Tryd.sl171 n hn W
  generalize dText n = t at *
  go_enter Tryd.func35, Tryd.ntmps35
  go_wp2_with (go_at_call 56; refine (HI.out _).mono ?_; rintro e w' ⟨rfl, rfl⟩)
  go_ret
  exact ⟨rfl, Below.refl _ _⟩
theorem FormatInt_tab (n : Nat) (hn : n ≤ 1000000000) (w : World) (ht : HTab w) :
    Calls Tryd.prog 35 #[.int .i64 n] w fun e w' => e = .returned (.string (dText n)) ∧ Below w.heap.size w w' := by
  have HI : Calls Tryd.prog 56 #[.int .i64 n] w fun e w' => e = .returned (.string (dText n)) ∧ Below w.heap.size w w' := by
    refine (Any.strconv_Itoa Tryd.slM171 n (by omega) (by omega) w ht).mono fun e w' ⟨he, k, os, hw⟩ => ⟨?_, ?_⟩
    · rw [he, dText, Lib.itoa, if_neg (by omega)]; simp
    · rw [hw]; exact below_growN _ _ _
  generalize dText n = t at *
  go_enter Tryd.func35, Tryd.ntmps35
  go_wp2_with (go_at_call 56; refine HI.mono ?_; rintro e w' ⟨rfl, hb⟩; obtain ⟨hc, hf, hz, hy⟩ := bcell hb; clear hy; (try simp only [World.size_alloc, World.size_setCell, World.size_drew] at hz); (try have gQ0 : w.heap.size < w'.heap.size := by omega); (try have gQ1 : w.heap.size + 1 < w'.heap.size := by omega); (try have gQ2 : w.heap.size + 1 + 1 < w'.heap.size := by omega); (try have gQ3 : w.heap.size + 1 + 1 + 1 < w'.heap.size := by omega); (try have gQ4 : w.heap.size + 1 + 1 + 1 + 1 < w'.heap.size := by omega); (try have gQ5 : w.heap.size + 1 + 1 + 1 + 1 + 1 < w'.heap.size := by omega); (try have dQ0 : _ < w'.heap.size := Nat.lt_of_lt_of_le dQ0 (by omega)); (try have dQ1 : _ < w'.heap.size := Nat.lt_of_lt_of_le dQ1 (by omega)); (try have dQ2 : _ < w'.heap.size := Nat.lt_of_lt_of_le dQ2 (by omega)); (try have dQ3 : _ < w'.heap.size := Nat.lt_of_lt_of_le dQ3 (by omega)); (try have dQ4 : _ < w'.heap.size := Nat.lt_of_lt_of_le dQ4 (by omega)); (try have dQ5 : _ < w'.heap.size := Nat.lt_of_lt_of_le dQ5 (by omega)); (try (have hnQ := Nat.lt_of_succ_le hz; first | (have _x := dQ0; first | (have _x := dQ1; first | (have _x := dQ2; first | (have _x := dQ3; first | (have _x := dQ4; have dQ5 := hnQ) | have dQ4 := hnQ) | have dQ3 := hnQ) | have dQ2 := hnQ) | have dQ1 := hnQ) | have dQ0 := hnQ)); (try (have hmQ := Nat.lt_of_succ_lt (Nat.lt_of_succ_le hz); first | (have _x := dQ0; first | (have _x := dQ1; first | (have _x := dQ2; first | (have _x := dQ3; first | (have _x := dQ4; have dQ5 := hmQ) | have dQ4 := hmQ) | have dQ3 := hmQ) | have dQ2 := hmQ) | have dQ1 := hmQ) | have dQ0 := hmQ)))
  go_ret
  exact ⟨rfl, by assumption⟩
theorem l01Figure_any (n : Nat) (hn : n < 10) (w : World) :
    Calls Tryd.prog 65 #[.int .i64 n] w fun e w' => e = .returned (.int .u8 (48 + n : Nat)) ∧ w' = w := by
  go_enter Tryd.func65, Tryd.ntmps65
  go_wp2_with fail
  go_ret
  exact ⟨congrArg (fun x => Ending.returned (Value.int .u8 x)) (by simp [IntKind.wrap]), rfl⟩
set_option maxRecDepth 100000 in
theorem sFormatInt_any (k : Nat) (hk : k ≤ 1000000000) (w : World) :
    Calls Tryd.prog 43 #[.int .i64 k] w fun e w' => e = .returned (.string (dText k)) ∧ Below w.heap.size w w' := by
  by_cases h0 : k = 0
  · subst h0
    have HE : Hid (dText 0 = ⟨#[48]⟩) := by show _ = _; simp [dText, Lib.decDigits]
    go_enter Tryd.func43, Tryd.ntmps43
    go_wp2_with fail
    go_ret
    exact ⟨by rw [HE.out]; rfl, Below.refl _ _⟩
  have HE : Hid (dText k = ⟨(fmGo k k []).toArray⟩) := by show _ = _; rw [fmGo_digits k k [] (by omega) (Nat.le_refl _)]; simp [dText]
  have hpos : 0 < k := by omega
  have hk0 : ((k : Int) == 0) = false := by simp; omega
  have hk1 : decide ((k : Int) < 0) = false := by simp
  generalize dText k = t at *
  go_enter Tryd.func43, Tryd.ntmps43
  go_wp2_with fail
  go_loopw [0, 4] (fun n o wr => ∃ (m f : Nat) (acc : List UInt8), n = .int .i64 m ∧ m ≤ f ∧ m ≤ 1000000000 ∧ o = .string ⟨acc.toArray⟩ ∧ Hid (fmGo f m acc = fmGo k k []) ∧ acc.length + f ≤ 1000000000 ∧ Below w.heap.size w wr) (fun n _ _ => (intOf n).toNat)
  case atStart => exact ⟨k, k, [], rfl, by omega, by omega, rfl, rfl, by simp; omega, by (repeat' first | (with_reducible exact Below.refl _ _) | (with_reducible refine Below.alloc ?_ ?_ _) | (with_reducible refine Below.drew ?_) | (with_reducible refine Below.setCell ?_ ?_ _) | (with_reducible refine below_via (by assumption) ?_ ?_) | go_size)⟩
  case round =>
    obtain ⟨m, f, acc, rfl, hmf, hm, rfl, hgo, hal, hbw⟩ := hrel
    have hz := hbw.size
    rcases Nat.eq_zero_or_pos m with h | h
    · subst h
      have HF : Hid (fmGo k k [] = acc) := by show _ = _; rw [← hgo.out]; cases f <;> simp [fmGo]
      go_wp2_with fail
      go_ret
      exact ⟨by rw [HE.out, HF.out]; rfl, hbw⟩
    · obtain ⟨f', rfl⟩ : ∃ f', f = f' + 1 := ⟨f - 1, by omega⟩
      have HF : Hid (fmGo f' (m / 10) (UInt8.ofNat (48 + m % 10) :: acc) = fmGo k k []) := by
        show _ = _
        rw [← hgo.out]; simp [fmGo, show m ≠ 0 from by omega]
      have hcv := conv1F ((48 + m % 10 : Nat) : Int) wr
      rw [Int.toNat_natCast] at hcv
      have HFig : Hid (Calls Tryd.prog 65 #[.int .i64 ((m : Int) % 10)] wr fun e w' => e = .returned (.int .u8 (48 + m % 10 : Nat)) ∧ w' = wr) := by
        have := l01Figure_any (m % 10) (by omega) wr
        rw [show (((m % 10 : Nat) : Int)) = (m : Int) % 10 from by omega] at this
        exact this
      generalize (((48 + m % 10 : Nat) : Int)) = fg at *
      go_wp2_with (go_at_call 65; refine HFig.out.mono ?_; rintro e w' ⟨rfl, rfl⟩)
      go_roundw
      case rel => exact ⟨m / 10, f', UInt8.ofNat (48 + m % 10) :: acc, by go_num, by omega, by omega, by rw [cat1F], HF, by simp; omega, by (repeat' first | (with_reducible exact Below.refl _ _) | (with_reducible refine Below.alloc ?_ ?_ _) | (with_reducible refine Below.drew ?_) | (with_reducible refine Below.setCell ?_ ?_ _) | (with_reducible refine below_via (by assumption) ?_ ?_) | go_size)⟩
      case measure => simp [intOf]; omega
end Go.Proofs.YtkaojpcpfbbicaaDoor
