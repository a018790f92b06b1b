/- MarkT: the contract of the laws' markText. Conditions: a number in range. -/
import Derived.Test.YteipebedoalafaaMemS
import Derived.Test.YteipebedoalafaaNum
import Derived.Laws.BytesString
set_option linter.unusedVariables false
set_option linter.unusedSimpArgs false
namespace Peg
def mkGo : Nat → Nat → List UInt8 → List UInt8
  | 0, _, acc => acc
  | f + 1, k, acc => if k = 0 then acc else mkGo f (k / 10) (UInt8.ofNat (48 + k % 10) :: acc)
theorem cat1 (n : Nat) (acc : List UInt8) : ((⟨#[48 + UInt8.ofNat n]⟩ : ByteArray) ++ ⟨acc.toArray⟩) = ⟨(UInt8.ofNat (48 + n) :: acc).toArray⟩ := by
  have : (48 + UInt8.ofNat n : UInt8) = UInt8.ofNat (48 + n) := by simp
  rw [this]
  ext1
  simp
def mkText (k : Nat) : ByteArray := ⟨(109 :: (if k = 0 then [48] else mkGo k k [])).toArray⟩
end Peg
namespace Go.Proofs.Yteipebedoalafaa
open Go.ChangeShapes Go.WideShapes Go.ChangeAt Go.RowKit Peg Go.Sort
theorem conv1 (n : Int) (w : World) :
    (convert 122 9 (.slice (some ⟨w.heap.size, 0, none⟩) 1 1)).run Try.prog (w.alloc (.cells #[.int .u8 n] 5)) = .ok (.string ⟨#[UInt8.ofNat n.toNat]⟩) (w.alloc (.cells #[.int .u8 n] 5)) := by
  rw [run_convert_bytes_string (P := Try.prog) _ _ _ 5 _ _ _ Try.underlying122 Try.underlying5 Try.underlying9]
  rw [run_bytesToString (P := Try.prog) _ ⟨w.heap.size, 0, none⟩ 1 1 [n] (by simp [go_sem, loadCells, loadCellsFrom])]
  rfl
set_option maxRecDepth 100000 in
theorem markText_any (k : Nat) (hk : k ≤ 2199023255552) (w : World) :
    Calls Try.prog 60 #[.int .i64 k] w fun e w' => e = .returned (.string (mkText k)) ∧ Below w.heap.size w w' := by
  by_cases h0 : k = 0
  · subst h0
    have HE : Hid (mkText 0 = ⟨#[109, 48]⟩) := by show _ = _; rfl
    go_enter Try.func60, Try.ntmps60
    go_wp2_with fail
    go_ret
    exact ⟨by rw [HE.out]; rfl, Below.refl _ _⟩
  have HE : Hid (mkText k = ⟨(109 :: mkGo k k []).toArray⟩) := by show _ = _; simp [mkText, h0]
  have hpos : 0 < k := by omega
  go_enter Try.func60, Try.ntmps60
  go_wp2_with fail
  go_loopw [0, 3] (fun n o wr => ∃ (m f : Nat) (acc : List UInt8), n = .int .i64 m ∧ m ≤ f ∧ m ≤ 2199023255552 ∧ o = .string ⟨acc.toArray⟩ ∧ Hid (mkGo f m acc = mkGo k k []) ∧ acc.length + f ≤ 2199023255552 ∧ Below w.heap.size w wr) (fun n _ _ => (intOf n).toNat)
  case atStart => exact ⟨k, k, [], rfl, by omega, by omega, rfl, rfl, by simp; omega, by (repeat' first | (with_reducible exact Below.refl _ _) | (with_reducible refine Below.alloc ?_ ?_ _) | (with_reducible refine Below.drew ?_) | (with_reducible refine Below.setCell ?_ ?_ _) | (with_reducible refine below_via (by assumption) ?_ ?_) | go_size)⟩
  case round =>
    obtain ⟨m, f, acc, rfl, hmf, hm, rfl, hgo, hal, hbw⟩ := hrel
    have hz := hbw.size
    rcases Nat.eq_zero_or_pos m with h | h
    · subst h
      have HF : Hid (mkGo k k [] = acc) := by show _ = _; rw [← hgo.out]; cases f <;> simp [mkGo]
      go_wp2_with fail
      go_ret
      exact ⟨by rw [HE.out, HF.out]; exact congrArg (fun x => Ending.returned (Value.string x)) (by ext1; simp), hbw⟩
    · obtain ⟨f', rfl⟩ : ∃ f', f = f' + 1 := ⟨f - 1, by omega⟩
      have HF : Hid (mkGo f' (m / 10) (UInt8.ofNat (48 + m % 10) :: acc) = mkGo k k []) := by
        show _ = _
        rw [← hgo.out]; simp [mkGo, show m ≠ 0 from by omega]
      have hcv := conv1 (48 + (m : Int) % 10) wr
      rw [show (48 + (m : Int) % 10).toNat = 48 + m % 10 from by omega] at hcv
      go_wp2_with fail
      go_roundw
      case rel => exact ⟨m / 10, f', UInt8.ofNat (48 + m % 10) :: acc, by go_num, by omega, by omega, by rw [cat1], HF, by simp; omega, by (repeat' first | (with_reducible exact Below.refl _ _) | (with_reducible refine Below.alloc ?_ ?_ _) | (with_reducible refine Below.drew ?_) | (with_reducible refine Below.setCell ?_ ?_ _) | (with_reducible refine below_via (by assumption) ?_ ?_) | go_size)⟩
      case measure => simp [intOf]; omega
end Go.Proofs.Yteipebedoalafaa
