/-
  No cell of these rows narrows 'for every input' (looked for: loops, veiled, ifaces, maps, wideKeys, modest, calm, conditions, laid).
  DERIVED. THE GIVEN ROWS OF THIS SEAT. 12 by the template 'for every input the law returns true; each argument reads behind the call as it read before'; 0 by the template 'total and deterministic' (their statements: YtnaeaeppekicmaaTotals.lean).
  GIVEN WITH THE SEED: the statements are not yours to turn. If you find one false, say at which input.
  Laid BY PROGRAM, IN A SANDBOX (cutbox-rows.mjs): the forced cells as the released guide's own fill.sh prints them over the translation 539e4162ed59fe1a… (all of the seat's roots in one cut). By AI agents, Wed Nov 11 2026. No macro, syntax, notation, axiom, sorry.
-/
import Derived.Test.YtnaeaeppekicmaaChecked
import GoSem.Claim
import GoSem.ClaimJoined
import GoSem.ClaimMapViews
import Derived.JoinedTies
import Derived.KernelRfl
namespace Go.Proofs.Ytnaeaeppekicmaa
/- THE CELL 'sum', in the pinned program and in every row, IS THE sha256 OF THE DUMP (.gsa) THAT YtnaeaeppekicmaaProg.lean LOADS. Nothing in Lean hashes anything: it is a label: what it is worth is what the hold of that sum in a sandbox is worth. -/
noncomputable def Try.pinned : Pinned := { name := "ytnaeaeppekicmaa", sum := "539e4162ed59fe1a79a2443f064f15448bfcc57fa76f427e6bde3ba6b1cdc457", checked := Try.checked }
namespace Rows
def none {H : Type} : Left H := { results := [], args := [] }

/-- 'laws.FnExactNextSeed': WHATEVER THE INPUT: true; the input reads as it did. -/
def fnExactNextSeedSpec : ChangeSpec := { name := "fnExactNextSeed", fn := fun _ => fun
  | [d] => { results := [.lit (.bool true)], args := [d] }
  | _ => none }
def fnExactNextSeedRow : OpenClaim := { program := "ytnaeaeppekicmaa", sum := "539e4162ed59fe1a79a2443f064f15448bfcc57fa76f427e6bde3ba6b1cdc457", func := "loop.example/g03302/laws.FnExactNextSeed", spec := "fnExactNextSeed", apart := false }
def FnExactNextSeedSaid : Prop := fnExactNextSeedRow.holds Try.pinned (OpenSpec.ofChange fnExactNextSeedSpec)

/-- ITS FALSE NEIGHBOUR: 'it returns false'. Refute it at one input. -/
def fnExactNextSeedWrong : ChangeSpec := { name := "fnExactNextSeed", fn := fun _ => fun
  | [d] => { results := [.lit (.bool false)], args := [d] }
  | _ => none }
def FnExactNextSeedWrongFalsely : Prop := fnExactNextSeedRow.holds Try.pinned (OpenSpec.ofChange fnExactNextSeedWrong)

/-- 'laws.FnExactClockOk': WHATEVER THE INPUT: true; the input reads as it did. -/
def fnExactClockOkSpec : ChangeSpec := { name := "fnExactClockOk", fn := fun _ => fun
  | [d] => { results := [.lit (.bool true)], args := [d] }
  | _ => none }
def fnExactClockOkRow : OpenClaim := { program := "ytnaeaeppekicmaa", sum := "539e4162ed59fe1a79a2443f064f15448bfcc57fa76f427e6bde3ba6b1cdc457", func := "loop.example/g03302/laws.FnExactClockOk", spec := "fnExactClockOk", apart := false }
def FnExactClockOkSaid : Prop := fnExactClockOkRow.holds Try.pinned (OpenSpec.ofChange fnExactClockOkSpec)

/-- ITS FALSE NEIGHBOUR: 'it returns false'. Refute it at one input. -/
def fnExactClockOkWrong : ChangeSpec := { name := "fnExactClockOk", fn := fun _ => fun
  | [d] => { results := [.lit (.bool false)], args := [d] }
  | _ => none }
def FnExactClockOkWrongFalsely : Prop := fnExactClockOkRow.holds Try.pinned (OpenSpec.ofChange fnExactClockOkWrong)

/-- 'laws.FnExactResultOk': WHATEVER THE INPUT: true; the input reads as it did. -/
def fnExactResultOkSpec : ChangeSpec := { name := "fnExactResultOk", fn := fun _ => fun
  | [d] => { results := [.lit (.bool true)], args := [d] }
  | _ => none }
def fnExactResultOkRow : OpenClaim := { program := "ytnaeaeppekicmaa", sum := "539e4162ed59fe1a79a2443f064f15448bfcc57fa76f427e6bde3ba6b1cdc457", func := "loop.example/g03302/laws.FnExactResultOk", spec := "fnExactResultOk", apart := false }
def FnExactResultOkSaid : Prop := fnExactResultOkRow.holds Try.pinned (OpenSpec.ofChange fnExactResultOkSpec)

/-- ITS FALSE NEIGHBOUR: 'it returns false'. Refute it at one input. -/
def fnExactResultOkWrong : ChangeSpec := { name := "fnExactResultOk", fn := fun _ => fun
  | [d] => { results := [.lit (.bool false)], args := [d] }
  | _ => none }
def FnExactResultOkWrongFalsely : Prop := fnExactResultOkRow.holds Try.pinned (OpenSpec.ofChange fnExactResultOkWrong)

/-- 'laws.FnExactHasFallen': WHATEVER THE INPUT: true; the input reads as it did. -/
def fnExactHasFallenSpec : ChangeSpec := { name := "fnExactHasFallen", fn := fun _ => fun
  | [d1, d2] => { results := [.lit (.bool true)], args := [d1, d2] }
  | _ => none }
def fnExactHasFallenRow : OpenClaim := { program := "ytnaeaeppekicmaa", sum := "539e4162ed59fe1a79a2443f064f15448bfcc57fa76f427e6bde3ba6b1cdc457", func := "loop.example/g03302/laws.FnExactHasFallen", spec := "fnExactHasFallen", apart := false }
def FnExactHasFallenSaid : Prop := fnExactHasFallenRow.holds Try.pinned (OpenSpec.ofChange fnExactHasFallenSpec)

/-- ITS FALSE NEIGHBOUR: 'it returns false'. Refute it at one input. -/
def fnExactHasFallenWrong : ChangeSpec := { name := "fnExactHasFallen", fn := fun _ => fun
  | [d1, d2] => { results := [.lit (.bool false)], args := [d1, d2] }
  | _ => none }
def FnExactHasFallenWrongFalsely : Prop := fnExactHasFallenRow.holds Try.pinned (OpenSpec.ofChange fnExactHasFallenWrong)

/-- 'laws.FnExactRowOk': WHATEVER THE INPUT: true; the input reads as it did. -/
def fnExactRowOkSpec : ChangeSpec := { name := "fnExactRowOk", fn := fun _ => fun
  | [d] => { results := [.lit (.bool true)], args := [d] }
  | _ => none }
def fnExactRowOkRow : OpenClaim := { program := "ytnaeaeppekicmaa", sum := "539e4162ed59fe1a79a2443f064f15448bfcc57fa76f427e6bde3ba6b1cdc457", func := "loop.example/g03302/laws.FnExactRowOk", spec := "fnExactRowOk", apart := false }
def FnExactRowOkSaid : Prop := fnExactRowOkRow.holds Try.pinned (OpenSpec.ofChange fnExactRowOkSpec)

/-- ITS FALSE NEIGHBOUR: 'it returns false'. Refute it at one input. -/
def fnExactRowOkWrong : ChangeSpec := { name := "fnExactRowOk", fn := fun _ => fun
  | [d] => { results := [.lit (.bool false)], args := [d] }
  | _ => none }
def FnExactRowOkWrongFalsely : Prop := fnExactRowOkRow.holds Try.pinned (OpenSpec.ofChange fnExactRowOkWrong)

/-- 'laws.FnExactSecondsUsed': WHATEVER THE INPUT: true; the input reads as it did. -/
def fnExactSecondsUsedSpec : ChangeSpec := { name := "fnExactSecondsUsed", fn := fun _ => fun
  | [d1, d2] => { results := [.lit (.bool true)], args := [d1, d2] }
  | _ => none }
def fnExactSecondsUsedRow : OpenClaim := { program := "ytnaeaeppekicmaa", sum := "539e4162ed59fe1a79a2443f064f15448bfcc57fa76f427e6bde3ba6b1cdc457", func := "loop.example/g03302/laws.FnExactSecondsUsed", spec := "fnExactSecondsUsed", apart := false }
def FnExactSecondsUsedSaid : Prop := fnExactSecondsUsedRow.holds Try.pinned (OpenSpec.ofChange fnExactSecondsUsedSpec)

/-- ITS FALSE NEIGHBOUR: 'it returns false'. Refute it at one input. -/
def fnExactSecondsUsedWrong : ChangeSpec := { name := "fnExactSecondsUsed", fn := fun _ => fun
  | [d1, d2] => { results := [.lit (.bool false)], args := [d1, d2] }
  | _ => none }
def FnExactSecondsUsedWrongFalsely : Prop := fnExactSecondsUsedRow.holds Try.pinned (OpenSpec.ofChange fnExactSecondsUsedWrong)

/-- 'laws.FnExactPuzzleOk': WHATEVER THE INPUT: true; the input reads as it did. -/
def fnExactPuzzleOkSpec : ChangeSpec := { name := "fnExactPuzzleOk", fn := fun _ => fun
  | [d] => { results := [.lit (.bool true)], args := [d] }
  | _ => none }
def fnExactPuzzleOkRow : OpenClaim := { program := "ytnaeaeppekicmaa", sum := "539e4162ed59fe1a79a2443f064f15448bfcc57fa76f427e6bde3ba6b1cdc457", func := "loop.example/g03302/laws.FnExactPuzzleOk", spec := "fnExactPuzzleOk", apart := false }
def FnExactPuzzleOkSaid : Prop := fnExactPuzzleOkRow.holds Try.pinned (OpenSpec.ofChange fnExactPuzzleOkSpec)

/-- ITS FALSE NEIGHBOUR: 'it returns false'. Refute it at one input. -/
def fnExactPuzzleOkWrong : ChangeSpec := { name := "fnExactPuzzleOk", fn := fun _ => fun
  | [d] => { results := [.lit (.bool false)], args := [d] }
  | _ => none }
def FnExactPuzzleOkWrongFalsely : Prop := fnExactPuzzleOkRow.holds Try.pinned (OpenSpec.ofChange fnExactPuzzleOkWrong)

/-- 'laws.FnExactTurnRow': WHATEVER THE INPUT: true; the input reads as it did. -/
def fnExactTurnRowSpec : ChangeSpec := { name := "fnExactTurnRow", fn := fun _ => fun
  | [d] => { results := [.lit (.bool true)], args := [d] }
  | _ => none }
def fnExactTurnRowRow : OpenClaim := { program := "ytnaeaeppekicmaa", sum := "539e4162ed59fe1a79a2443f064f15448bfcc57fa76f427e6bde3ba6b1cdc457", func := "loop.example/g03302/laws.FnExactTurnRow", spec := "fnExactTurnRow", apart := false }
def FnExactTurnRowSaid : Prop := fnExactTurnRowRow.holds Try.pinned (OpenSpec.ofChange fnExactTurnRowSpec)

/-- ITS FALSE NEIGHBOUR: 'it returns false'. Refute it at one input. -/
def fnExactTurnRowWrong : ChangeSpec := { name := "fnExactTurnRow", fn := fun _ => fun
  | [d] => { results := [.lit (.bool false)], args := [d] }
  | _ => none }
def FnExactTurnRowWrongFalsely : Prop := fnExactTurnRowRow.holds Try.pinned (OpenSpec.ofChange fnExactTurnRowWrong)

/-- 'laws.FnExactPointsOf': WHATEVER THE INPUT: true; the input reads as it did. -/
def fnExactPointsOfSpec : ChangeSpec := { name := "fnExactPointsOf", fn := fun _ => fun
  | [d] => { results := [.lit (.bool true)], args := [d] }
  | _ => none }
def fnExactPointsOfRow : OpenClaim := { program := "ytnaeaeppekicmaa", sum := "539e4162ed59fe1a79a2443f064f15448bfcc57fa76f427e6bde3ba6b1cdc457", func := "loop.example/g03302/laws.FnExactPointsOf", spec := "fnExactPointsOf", apart := false }
def FnExactPointsOfSaid : Prop := fnExactPointsOfRow.holds Try.pinned (OpenSpec.ofChange fnExactPointsOfSpec)

/-- ITS FALSE NEIGHBOUR: 'it returns false'. Refute it at one input. -/
def fnExactPointsOfWrong : ChangeSpec := { name := "fnExactPointsOf", fn := fun _ => fun
  | [d] => { results := [.lit (.bool false)], args := [d] }
  | _ => none }
def FnExactPointsOfWrongFalsely : Prop := fnExactPointsOfRow.holds Try.pinned (OpenSpec.ofChange fnExactPointsOfWrong)

/-- 'laws.FnExactTickClock': WHATEVER THE INPUT: true; the input reads as it did. -/
def fnExactTickClockSpec : ChangeSpec := { name := "fnExactTickClock", fn := fun _ => fun
  | [d1, d2] => { results := [.lit (.bool true)], args := [d1, d2] }
  | _ => none }
def fnExactTickClockRow : OpenClaim := { program := "ytnaeaeppekicmaa", sum := "539e4162ed59fe1a79a2443f064f15448bfcc57fa76f427e6bde3ba6b1cdc457", func := "loop.example/g03302/laws.FnExactTickClock", spec := "fnExactTickClock", apart := false }
def FnExactTickClockSaid : Prop := fnExactTickClockRow.holds Try.pinned (OpenSpec.ofChange fnExactTickClockSpec)

/-- ITS FALSE NEIGHBOUR: 'it returns false'. Refute it at one input. -/
def fnExactTickClockWrong : ChangeSpec := { name := "fnExactTickClock", fn := fun _ => fun
  | [d1, d2] => { results := [.lit (.bool false)], args := [d1, d2] }
  | _ => none }
def FnExactTickClockWrongFalsely : Prop := fnExactTickClockRow.holds Try.pinned (OpenSpec.ofChange fnExactTickClockWrong)

/-- 'laws.FnExactIsBetter': WHATEVER THE INPUT: true; the input reads as it did. -/
def fnExactIsBetterSpec : ChangeSpec := { name := "fnExactIsBetter", fn := fun _ => fun
  | [d1, d2] => { results := [.lit (.bool true)], args := [d1, d2] }
  | _ => none }
def fnExactIsBetterRow : OpenClaim := { program := "ytnaeaeppekicmaa", sum := "539e4162ed59fe1a79a2443f064f15448bfcc57fa76f427e6bde3ba6b1cdc457", func := "loop.example/g03302/laws.FnExactIsBetter", spec := "fnExactIsBetter", apart := false }
def FnExactIsBetterSaid : Prop := fnExactIsBetterRow.holds Try.pinned (OpenSpec.ofChange fnExactIsBetterSpec)

/-- ITS FALSE NEIGHBOUR: 'it returns false'. Refute it at one input. -/
def fnExactIsBetterWrong : ChangeSpec := { name := "fnExactIsBetter", fn := fun _ => fun
  | [d1, d2] => { results := [.lit (.bool false)], args := [d1, d2] }
  | _ => none }
def FnExactIsBetterWrongFalsely : Prop := fnExactIsBetterRow.holds Try.pinned (OpenSpec.ofChange fnExactIsBetterWrong)

/-- 'laws.FnExactAreTied': WHATEVER THE INPUT: true; the input reads as it did. -/
def fnExactAreTiedSpec : ChangeSpec := { name := "fnExactAreTied", fn := fun _ => fun
  | [d1, d2] => { results := [.lit (.bool true)], args := [d1, d2] }
  | _ => none }
def fnExactAreTiedRow : OpenClaim := { program := "ytnaeaeppekicmaa", sum := "539e4162ed59fe1a79a2443f064f15448bfcc57fa76f427e6bde3ba6b1cdc457", func := "loop.example/g03302/laws.FnExactAreTied", spec := "fnExactAreTied", apart := false }
def FnExactAreTiedSaid : Prop := fnExactAreTiedRow.holds Try.pinned (OpenSpec.ofChange fnExactAreTiedSpec)

/-- ITS FALSE NEIGHBOUR: 'it returns false'. Refute it at one input. -/
def fnExactAreTiedWrong : ChangeSpec := { name := "fnExactAreTied", fn := fun _ => fun
  | [d1, d2] => { results := [.lit (.bool false)], args := [d1, d2] }
  | _ => none }
def FnExactAreTiedWrongFalsely : Prop := fnExactAreTiedRow.holds Try.pinned (OpenSpec.ofChange fnExactAreTiedWrong)

/- THE SECOND FORM. 'bulk': how many values and letters a reading holds, each counted each time it is reached (what is shared counts as often as it is met; a slice's spare places count too). A statement '..UptoSaid' is the law's where the arguments, and the package variables that the reading takes, are together of bulk at most 1048576: NARROWER than '..Said'. Prove '..Said' where nothing that the law and all that it calls make is longer than what came in: it says more and counts as full. Else prove '..UptoSaid'. A law counts once. -/
mutual
def uptoBulk {H : Type} : DataW H → Nat
  | .lit (.string bytes) => bytes.length + 1
  | .lit _ => 1
  | .nil => 1
  | .ptr d => uptoBulk d + 1
  | .slice elems spare => uptoBulkAll elems + uptoBulkAll spare + 1
  | .agg parts => uptoBulkAll parts + 1
  | .iface _ d => uptoBulk d + 1
  | .map entries => uptoBulkEntries entries + 1
  | .held _ => 1
def uptoBulkAll {H : Type} : List (DataW H) → Nat
  | [] => 0
  | d :: r => uptoBulk d + uptoBulkAll r
def uptoBulkEntries {H : Type} : List (Lit × DataW H) → Nat
  | [] => 0
  | x :: r => uptoBulkEntry x + uptoBulkEntries r
def uptoBulkEntry {H : Type} : Lit × DataW H → Nat
  | (.string bytes, d) => bytes.length + uptoBulk d + 1
  | (_, d) => uptoBulk d + 1
 end
def uptoSmall : (H : Type) → List (DataW H) → Bool := fun _ ds => decide (uptoBulkAll ds ≤ 1048576)
def OpenSpec.upto (s : _root_.Go.ChangeSpec) : _root_.Go.OpenSpec := { _root_.Go.OpenSpec.ofChange s with cond := some uptoSmall }

/-- 'laws.FnExactNextSeed', WHERE WHAT IT READS IS OF BULK AT MOST 1048576: true; the input reads as it did. -/
def fnExactNextSeedUptoRow : OpenClaim := { program := "ytnaeaeppekicmaa", sum := "539e4162ed59fe1a79a2443f064f15448bfcc57fa76f427e6bde3ba6b1cdc457", func := "loop.example/g03302/laws.FnExactNextSeed", spec := "fnExactNextSeed", apart := false, narrowed := true }
def FnExactNextSeedUptoSaid : Prop := fnExactNextSeedUptoRow.holds Try.pinned (OpenSpec.upto fnExactNextSeedSpec)

/-- 'laws.FnExactClockOk', WHERE WHAT IT READS IS OF BULK AT MOST 1048576: true; the input reads as it did. -/
def fnExactClockOkUptoRow : OpenClaim := { program := "ytnaeaeppekicmaa", sum := "539e4162ed59fe1a79a2443f064f15448bfcc57fa76f427e6bde3ba6b1cdc457", func := "loop.example/g03302/laws.FnExactClockOk", spec := "fnExactClockOk", apart := false, narrowed := true }
def FnExactClockOkUptoSaid : Prop := fnExactClockOkUptoRow.holds Try.pinned (OpenSpec.upto fnExactClockOkSpec)

/-- 'laws.FnExactResultOk', WHERE WHAT IT READS IS OF BULK AT MOST 1048576: true; the input reads as it did. -/
def fnExactResultOkUptoRow : OpenClaim := { program := "ytnaeaeppekicmaa", sum := "539e4162ed59fe1a79a2443f064f15448bfcc57fa76f427e6bde3ba6b1cdc457", func := "loop.example/g03302/laws.FnExactResultOk", spec := "fnExactResultOk", apart := false, narrowed := true }
def FnExactResultOkUptoSaid : Prop := fnExactResultOkUptoRow.holds Try.pinned (OpenSpec.upto fnExactResultOkSpec)

/-- 'laws.FnExactHasFallen', WHERE WHAT IT READS IS OF BULK AT MOST 1048576: true; the input reads as it did. -/
def fnExactHasFallenUptoRow : OpenClaim := { program := "ytnaeaeppekicmaa", sum := "539e4162ed59fe1a79a2443f064f15448bfcc57fa76f427e6bde3ba6b1cdc457", func := "loop.example/g03302/laws.FnExactHasFallen", spec := "fnExactHasFallen", apart := false, narrowed := true }
def FnExactHasFallenUptoSaid : Prop := fnExactHasFallenUptoRow.holds Try.pinned (OpenSpec.upto fnExactHasFallenSpec)

/-- 'laws.FnExactRowOk', WHERE WHAT IT READS IS OF BULK AT MOST 1048576: true; the input reads as it did. -/
def fnExactRowOkUptoRow : OpenClaim := { program := "ytnaeaeppekicmaa", sum := "539e4162ed59fe1a79a2443f064f15448bfcc57fa76f427e6bde3ba6b1cdc457", func := "loop.example/g03302/laws.FnExactRowOk", spec := "fnExactRowOk", apart := false, narrowed := true }
def FnExactRowOkUptoSaid : Prop := fnExactRowOkUptoRow.holds Try.pinned (OpenSpec.upto fnExactRowOkSpec)

/-- 'laws.FnExactSecondsUsed', WHERE WHAT IT READS IS OF BULK AT MOST 1048576: true; the input reads as it did. -/
def fnExactSecondsUsedUptoRow : OpenClaim := { program := "ytnaeaeppekicmaa", sum := "539e4162ed59fe1a79a2443f064f15448bfcc57fa76f427e6bde3ba6b1cdc457", func := "loop.example/g03302/laws.FnExactSecondsUsed", spec := "fnExactSecondsUsed", apart := false, narrowed := true }
def FnExactSecondsUsedUptoSaid : Prop := fnExactSecondsUsedUptoRow.holds Try.pinned (OpenSpec.upto fnExactSecondsUsedSpec)

/-- 'laws.FnExactPuzzleOk', WHERE WHAT IT READS IS OF BULK AT MOST 1048576: true; the input reads as it did. -/
def fnExactPuzzleOkUptoRow : OpenClaim := { program := "ytnaeaeppekicmaa", sum := "539e4162ed59fe1a79a2443f064f15448bfcc57fa76f427e6bde3ba6b1cdc457", func := "loop.example/g03302/laws.FnExactPuzzleOk", spec := "fnExactPuzzleOk", apart := false, narrowed := true }
def FnExactPuzzleOkUptoSaid : Prop := fnExactPuzzleOkUptoRow.holds Try.pinned (OpenSpec.upto fnExactPuzzleOkSpec)

/-- 'laws.FnExactTurnRow', WHERE WHAT IT READS IS OF BULK AT MOST 1048576: true; the input reads as it did. -/
def fnExactTurnRowUptoRow : OpenClaim := { program := "ytnaeaeppekicmaa", sum := "539e4162ed59fe1a79a2443f064f15448bfcc57fa76f427e6bde3ba6b1cdc457", func := "loop.example/g03302/laws.FnExactTurnRow", spec := "fnExactTurnRow", apart := false, narrowed := true }
def FnExactTurnRowUptoSaid : Prop := fnExactTurnRowUptoRow.holds Try.pinned (OpenSpec.upto fnExactTurnRowSpec)

/-- 'laws.FnExactPointsOf', WHERE WHAT IT READS IS OF BULK AT MOST 1048576: true; the input reads as it did. -/
def fnExactPointsOfUptoRow : OpenClaim := { program := "ytnaeaeppekicmaa", sum := "539e4162ed59fe1a79a2443f064f15448bfcc57fa76f427e6bde3ba6b1cdc457", func := "loop.example/g03302/laws.FnExactPointsOf", spec := "fnExactPointsOf", apart := false, narrowed := true }
def FnExactPointsOfUptoSaid : Prop := fnExactPointsOfUptoRow.holds Try.pinned (OpenSpec.upto fnExactPointsOfSpec)

/-- 'laws.FnExactTickClock', WHERE WHAT IT READS IS OF BULK AT MOST 1048576: true; the input reads as it did. -/
def fnExactTickClockUptoRow : OpenClaim := { program := "ytnaeaeppekicmaa", sum := "539e4162ed59fe1a79a2443f064f15448bfcc57fa76f427e6bde3ba6b1cdc457", func := "loop.example/g03302/laws.FnExactTickClock", spec := "fnExactTickClock", apart := false, narrowed := true }
def FnExactTickClockUptoSaid : Prop := fnExactTickClockUptoRow.holds Try.pinned (OpenSpec.upto fnExactTickClockSpec)

/-- 'laws.FnExactIsBetter', WHERE WHAT IT READS IS OF BULK AT MOST 1048576: true; the input reads as it did. -/
def fnExactIsBetterUptoRow : OpenClaim := { program := "ytnaeaeppekicmaa", sum := "539e4162ed59fe1a79a2443f064f15448bfcc57fa76f427e6bde3ba6b1cdc457", func := "loop.example/g03302/laws.FnExactIsBetter", spec := "fnExactIsBetter", apart := false, narrowed := true }
def FnExactIsBetterUptoSaid : Prop := fnExactIsBetterUptoRow.holds Try.pinned (OpenSpec.upto fnExactIsBetterSpec)

/-- 'laws.FnExactAreTied', WHERE WHAT IT READS IS OF BULK AT MOST 1048576: true; the input reads as it did. -/
def fnExactAreTiedUptoRow : OpenClaim := { program := "ytnaeaeppekicmaa", sum := "539e4162ed59fe1a79a2443f064f15448bfcc57fa76f427e6bde3ba6b1cdc457", func := "loop.example/g03302/laws.FnExactAreTied", spec := "fnExactAreTied", apart := false, narrowed := true }
def FnExactAreTiedUptoSaid : Prop := fnExactAreTiedUptoRow.holds Try.pinned (OpenSpec.upto fnExactAreTiedSpec)

end Rows
end Go.Proofs.Ytnaeaeppekicmaa
