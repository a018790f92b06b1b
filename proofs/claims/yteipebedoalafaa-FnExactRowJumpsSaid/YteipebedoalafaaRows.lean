/-
  No cell of these rows narrows 'for every input' (looked for: loops, veiled, ifaces, maps, wideKeys, modest, calm, conditions, laid).
  DERIVED. THE GIVEN ROWS OF THIS SEAT. 11 by the template 'for every input the law returns true; each argument reads behind the call as it read before'; 0 by the template 'total and deterministic' (their statements: YteipebedoalafaaTotals.lean).
  GIVEN WITH THE SEED: the statements are not yours to turn. If you find one false, say at which input.
  Laid BY PROGRAM, IN A SANDBOX (cutbox-rows.mjs): the forced cells as the released guide's own fill.sh prints them over the translation 9f118198ce23e286… (all of the seat's roots in one cut). By AI agents, Wed Nov 11 2026. No macro, syntax, notation, axiom, sorry.
-/
import Derived.Test.YteipebedoalafaaChecked
import GoSem.Claim
import GoSem.ClaimJoined
import GoSem.ClaimMapViews
import Derived.JoinedTies
import Derived.KernelRfl
namespace Go.Proofs.Yteipebedoalafaa
/- THE CELL 'sum', in the pinned program and in every row, IS THE sha256 OF THE DUMP (.gsa) THAT YteipebedoalafaaProg.lean LOADS. Nothing in Lean hashes anything: it is a label: what it is worth is what the hold of that sum in a sandbox is worth. -/
noncomputable def Try.pinned : Pinned := { name := "yteipebedoalafaa", sum := "9f118198ce23e286776b3243bebfbdc2f43de1e8235bc3885e8fa1f0dc5aa312", checked := Try.checked }
namespace Rows
def none {H : Type} : Left H := { results := [], args := [] }

/-- 'laws.FnExactRowJumps': WHATEVER THE INPUT: true; the input reads as it did. -/
def fnExactRowJumpsSpec : ChangeSpec := { name := "fnExactRowJumps", fn := fun _ => fun
  | [d] => { results := [.lit (.bool true)], args := [d] }
  | _ => none }
def fnExactRowJumpsRow : OpenClaim := { program := "yteipebedoalafaa", sum := "9f118198ce23e286776b3243bebfbdc2f43de1e8235bc3885e8fa1f0dc5aa312", func := "loop.example/g03302/laws.FnExactRowJumps", spec := "fnExactRowJumps", apart := false }
def FnExactRowJumpsSaid : Prop := fnExactRowJumpsRow.holds Try.pinned (OpenSpec.ofChange fnExactRowJumpsSpec)

/-- ITS FALSE NEIGHBOUR: 'it returns false'. Refute it at one input. -/
def fnExactRowJumpsWrong : ChangeSpec := { name := "fnExactRowJumps", fn := fun _ => fun
  | [d] => { results := [.lit (.bool false)], args := [d] }
  | _ => none }
def FnExactRowJumpsWrongFalsely : Prop := fnExactRowJumpsRow.holds Try.pinned (OpenSpec.ofChange fnExactRowJumpsWrong)

/-- 'laws.FnExactClaimOk': WHATEVER THE INPUT: true; the input reads as it did. -/
def fnExactClaimOkSpec : ChangeSpec := { name := "fnExactClaimOk", fn := fun _ => fun
  | [d] => { results := [.lit (.bool true)], args := [d] }
  | _ => none }
def fnExactClaimOkRow : OpenClaim := { program := "yteipebedoalafaa", sum := "9f118198ce23e286776b3243bebfbdc2f43de1e8235bc3885e8fa1f0dc5aa312", func := "loop.example/g03302/laws.FnExactClaimOk", spec := "fnExactClaimOk", apart := false }
def FnExactClaimOkSaid : Prop := fnExactClaimOkRow.holds Try.pinned (OpenSpec.ofChange fnExactClaimOkSpec)

/-- ITS FALSE NEIGHBOUR: 'it returns false'. Refute it at one input. -/
def fnExactClaimOkWrong : ChangeSpec := { name := "fnExactClaimOk", fn := fun _ => fun
  | [d] => { results := [.lit (.bool false)], args := [d] }
  | _ => none }
def FnExactClaimOkWrongFalsely : Prop := fnExactClaimOkRow.holds Try.pinned (OpenSpec.ofChange fnExactClaimOkWrong)

/-- 'laws.FnExactTotalOf': WHATEVER THE INPUT: true; the input reads as it did. -/
def fnExactTotalOfSpec : ChangeSpec := { name := "fnExactTotalOf", fn := fun _ => fun
  | [d] => { results := [.lit (.bool true)], args := [d] }
  | _ => none }
def fnExactTotalOfRow : OpenClaim := { program := "yteipebedoalafaa", sum := "9f118198ce23e286776b3243bebfbdc2f43de1e8235bc3885e8fa1f0dc5aa312", func := "loop.example/g03302/laws.FnExactTotalOf", spec := "fnExactTotalOf", apart := false }
def FnExactTotalOfSaid : Prop := fnExactTotalOfRow.holds Try.pinned (OpenSpec.ofChange fnExactTotalOfSpec)

/-- ITS FALSE NEIGHBOUR: 'it returns false'. Refute it at one input. -/
def fnExactTotalOfWrong : ChangeSpec := { name := "fnExactTotalOf", fn := fun _ => fun
  | [d] => { results := [.lit (.bool false)], args := [d] }
  | _ => none }
def FnExactTotalOfWrongFalsely : Prop := fnExactTotalOfRow.holds Try.pinned (OpenSpec.ofChange fnExactTotalOfWrong)

/-- 'laws.FnExactReadPosition': WHATEVER THE INPUT: true; the input reads as it did. -/
def fnExactReadPositionSpec : ChangeSpec := { name := "fnExactReadPosition", fn := fun _ => fun
  | [d1, d2] => { results := [.lit (.bool true)], args := [d1, d2] }
  | _ => none }
def fnExactReadPositionRow : OpenClaim := { program := "yteipebedoalafaa", sum := "9f118198ce23e286776b3243bebfbdc2f43de1e8235bc3885e8fa1f0dc5aa312", func := "loop.example/g03302/laws.FnExactReadPosition", spec := "fnExactReadPosition", apart := false }
def FnExactReadPositionSaid : Prop := fnExactReadPositionRow.holds Try.pinned (OpenSpec.ofChange fnExactReadPositionSpec)

/-- ITS FALSE NEIGHBOUR: 'it returns false'. Refute it at one input. -/
def fnExactReadPositionWrong : ChangeSpec := { name := "fnExactReadPosition", fn := fun _ => fun
  | [d1, d2] => { results := [.lit (.bool false)], args := [d1, d2] }
  | _ => none }
def FnExactReadPositionWrongFalsely : Prop := fnExactReadPositionRow.holds Try.pinned (OpenSpec.ofChange fnExactReadPositionWrong)

/-- 'laws.FnExactEntrantsOk': WHATEVER THE INPUT: true; the input reads as it did. -/
def fnExactEntrantsOkSpec : ChangeSpec := { name := "fnExactEntrantsOk", fn := fun _ => fun
  | [d] => { results := [.lit (.bool true)], args := [d] }
  | _ => none }
def fnExactEntrantsOkRow : OpenClaim := { program := "yteipebedoalafaa", sum := "9f118198ce23e286776b3243bebfbdc2f43de1e8235bc3885e8fa1f0dc5aa312", func := "loop.example/g03302/laws.FnExactEntrantsOk", spec := "fnExactEntrantsOk", apart := false }
def FnExactEntrantsOkSaid : Prop := fnExactEntrantsOkRow.holds Try.pinned (OpenSpec.ofChange fnExactEntrantsOkSpec)

/-- ITS FALSE NEIGHBOUR: 'it returns false'. Refute it at one input. -/
def fnExactEntrantsOkWrong : ChangeSpec := { name := "fnExactEntrantsOk", fn := fun _ => fun
  | [d] => { results := [.lit (.bool false)], args := [d] }
  | _ => none }
def FnExactEntrantsOkWrongFalsely : Prop := fnExactEntrantsOkRow.holds Try.pinned (OpenSpec.ofChange fnExactEntrantsOkWrong)

/-- 'laws.FnExactBestResult': WHATEVER THE INPUT: true; the input reads as it did. -/
def fnExactBestResultSpec : ChangeSpec := { name := "fnExactBestResult", fn := fun _ => fun
  | [d] => { results := [.lit (.bool true)], args := [d] }
  | _ => none }
def fnExactBestResultRow : OpenClaim := { program := "yteipebedoalafaa", sum := "9f118198ce23e286776b3243bebfbdc2f43de1e8235bc3885e8fa1f0dc5aa312", func := "loop.example/g03302/laws.FnExactBestResult", spec := "fnExactBestResult", apart := false }
def FnExactBestResultSaid : Prop := fnExactBestResultRow.holds Try.pinned (OpenSpec.ofChange fnExactBestResultSpec)

/-- ITS FALSE NEIGHBOUR: 'it returns false'. Refute it at one input. -/
def fnExactBestResultWrong : ChangeSpec := { name := "fnExactBestResult", fn := fun _ => fun
  | [d] => { results := [.lit (.bool false)], args := [d] }
  | _ => none }
def FnExactBestResultWrongFalsely : Prop := fnExactBestResultRow.holds Try.pinned (OpenSpec.ofChange fnExactBestResultWrong)

/-- 'laws.FnExactIsSolvable': WHATEVER THE INPUT: true; the input reads as it did. -/
def fnExactIsSolvableSpec : ChangeSpec := { name := "fnExactIsSolvable", fn := fun _ => fun
  | [d] => { results := [.lit (.bool true)], args := [d] }
  | _ => none }
def fnExactIsSolvableRow : OpenClaim := { program := "yteipebedoalafaa", sum := "9f118198ce23e286776b3243bebfbdc2f43de1e8235bc3885e8fa1f0dc5aa312", func := "loop.example/g03302/laws.FnExactIsSolvable", spec := "fnExactIsSolvable", apart := false }
def FnExactIsSolvableSaid : Prop := fnExactIsSolvableRow.holds Try.pinned (OpenSpec.ofChange fnExactIsSolvableSpec)

/-- ITS FALSE NEIGHBOUR: 'it returns false'. Refute it at one input. -/
def fnExactIsSolvableWrong : ChangeSpec := { name := "fnExactIsSolvable", fn := fun _ => fun
  | [d] => { results := [.lit (.bool false)], args := [d] }
  | _ => none }
def FnExactIsSolvableWrongFalsely : Prop := fnExactIsSolvableRow.holds Try.pinned (OpenSpec.ofChange fnExactIsSolvableWrong)

/-- 'laws.FnExactCountSpoils': WHATEVER THE INPUT: true; the input reads as it did. -/
def fnExactCountSpoilsSpec : ChangeSpec := { name := "fnExactCountSpoils", fn := fun _ => fun
  | [d] => { results := [.lit (.bool true)], args := [d] }
  | _ => none }
def fnExactCountSpoilsRow : OpenClaim := { program := "yteipebedoalafaa", sum := "9f118198ce23e286776b3243bebfbdc2f43de1e8235bc3885e8fa1f0dc5aa312", func := "loop.example/g03302/laws.FnExactCountSpoils", spec := "fnExactCountSpoils", apart := false }
def FnExactCountSpoilsSaid : Prop := fnExactCountSpoilsRow.holds Try.pinned (OpenSpec.ofChange fnExactCountSpoilsSpec)

/-- ITS FALSE NEIGHBOUR: 'it returns false'. Refute it at one input. -/
def fnExactCountSpoilsWrong : ChangeSpec := { name := "fnExactCountSpoils", fn := fun _ => fun
  | [d] => { results := [.lit (.bool false)], args := [d] }
  | _ => none }
def FnExactCountSpoilsWrongFalsely : Prop := fnExactCountSpoilsRow.holds Try.pinned (OpenSpec.ofChange fnExactCountSpoilsWrong)

/-- 'laws.FnExactIsSolvedBy': WHATEVER THE INPUT: true; the input reads as it did. -/
def fnExactIsSolvedBySpec : ChangeSpec := { name := "fnExactIsSolvedBy", fn := fun _ => fun
  | [d1, d2] => { results := [.lit (.bool true)], args := [d1, d2] }
  | _ => none }
def fnExactIsSolvedByRow : OpenClaim := { program := "yteipebedoalafaa", sum := "9f118198ce23e286776b3243bebfbdc2f43de1e8235bc3885e8fa1f0dc5aa312", func := "loop.example/g03302/laws.FnExactIsSolvedBy", spec := "fnExactIsSolvedBy", apart := false }
def FnExactIsSolvedBySaid : Prop := fnExactIsSolvedByRow.holds Try.pinned (OpenSpec.ofChange fnExactIsSolvedBySpec)

/-- ITS FALSE NEIGHBOUR: 'it returns false'. Refute it at one input. -/
def fnExactIsSolvedByWrong : ChangeSpec := { name := "fnExactIsSolvedBy", fn := fun _ => fun
  | [d1, d2] => { results := [.lit (.bool false)], args := [d1, d2] }
  | _ => none }
def FnExactIsSolvedByWrongFalsely : Prop := fnExactIsSolvedByRow.holds Try.pinned (OpenSpec.ofChange fnExactIsSolvedByWrong)

/-- 'laws.FnExactMakeGame': WHATEVER THE INPUT: true; the input reads as it did. -/
def fnExactMakeGameSpec : ChangeSpec := { name := "fnExactMakeGame", fn := fun _ => fun
  | [d1, d2, d3, d4] => { results := [.lit (.bool true)], args := [d1, d2, d3, d4] }
  | _ => none }
def fnExactMakeGameRow : OpenClaim := { program := "yteipebedoalafaa", sum := "9f118198ce23e286776b3243bebfbdc2f43de1e8235bc3885e8fa1f0dc5aa312", func := "loop.example/g03302/laws.FnExactMakeGame", spec := "fnExactMakeGame", apart := false }
def FnExactMakeGameSaid : Prop := fnExactMakeGameRow.holds Try.pinned (OpenSpec.ofChange fnExactMakeGameSpec)

/-- ITS FALSE NEIGHBOUR: 'it returns false'. Refute it at one input. -/
def fnExactMakeGameWrong : ChangeSpec := { name := "fnExactMakeGame", fn := fun _ => fun
  | [d1, d2, d3, d4] => { results := [.lit (.bool false)], args := [d1, d2, d3, d4] }
  | _ => none }
def FnExactMakeGameWrongFalsely : Prop := fnExactMakeGameRow.holds Try.pinned (OpenSpec.ofChange fnExactMakeGameWrong)

/-- 'laws.FnExactHintFor': WHATEVER THE INPUT: true; the input reads as it did. -/
def fnExactHintForSpec : ChangeSpec := { name := "fnExactHintFor", fn := fun _ => fun
  | [d1, d2] => { results := [.lit (.bool true)], args := [d1, d2] }
  | _ => none }
def fnExactHintForRow : OpenClaim := { program := "yteipebedoalafaa", sum := "9f118198ce23e286776b3243bebfbdc2f43de1e8235bc3885e8fa1f0dc5aa312", func := "loop.example/g03302/laws.FnExactHintFor", spec := "fnExactHintFor", apart := false }
def FnExactHintForSaid : Prop := fnExactHintForRow.holds Try.pinned (OpenSpec.ofChange fnExactHintForSpec)

/-- ITS FALSE NEIGHBOUR: 'it returns false'. Refute it at one input. -/
def fnExactHintForWrong : ChangeSpec := { name := "fnExactHintFor", fn := fun _ => fun
  | [d1, d2] => { results := [.lit (.bool false)], args := [d1, d2] }
  | _ => none }
def FnExactHintForWrongFalsely : Prop := fnExactHintForRow.holds Try.pinned (OpenSpec.ofChange fnExactHintForWrong)

/- THE SECOND FORM. 'bulk': how many values and letters a reading holds, each counted each time it is reached (what is shared counts as often as it is met; a slice's spare places count too). A statement '..UptoSaid' is the law's where the arguments, and the package variables that the reading takes, are together of bulk at most 1048576: NARROWER than '..Said'. Prove '..Said' where nothing that the law and all that it calls make is longer than what came in: it says more and counts as full. Else prove '..UptoSaid'. A law counts once. -/
mutual
def uptoBulk {H : Type} : DataW H → Nat
  | .lit (.string bytes) => bytes.length + 1
  | .lit _ => 1
  | .nil => 1
  | .ptr d => uptoBulk d + 1
  | .slice elems spare => uptoBulkAll elems + uptoBulkAll spare + 1
  | .agg parts => uptoBulkAll parts + 1
  | .iface _ d => uptoBulk d + 1
  | .map entries => uptoBulkEntries entries + 1
  | .held _ => 1
def uptoBulkAll {H : Type} : List (DataW H) → Nat
  | [] => 0
  | d :: r => uptoBulk d + uptoBulkAll r
def uptoBulkEntries {H : Type} : List (Lit × DataW H) → Nat
  | [] => 0
  | x :: r => uptoBulkEntry x + uptoBulkEntries r
def uptoBulkEntry {H : Type} : Lit × DataW H → Nat
  | (.string bytes, d) => bytes.length + uptoBulk d + 1
  | (_, d) => uptoBulk d + 1
 end
def uptoSmall : (H : Type) → List (DataW H) → Bool := fun _ ds => decide (uptoBulkAll ds ≤ 1048576)
def OpenSpec.upto (s : _root_.Go.ChangeSpec) : _root_.Go.OpenSpec := { _root_.Go.OpenSpec.ofChange s with cond := some uptoSmall }

/-- 'laws.FnExactRowJumps', WHERE WHAT IT READS IS OF BULK AT MOST 1048576: true; the input reads as it did. -/
def fnExactRowJumpsUptoRow : OpenClaim := { program := "yteipebedoalafaa", sum := "9f118198ce23e286776b3243bebfbdc2f43de1e8235bc3885e8fa1f0dc5aa312", func := "loop.example/g03302/laws.FnExactRowJumps", spec := "fnExactRowJumps", apart := false, narrowed := true }
def FnExactRowJumpsUptoSaid : Prop := fnExactRowJumpsUptoRow.holds Try.pinned (OpenSpec.upto fnExactRowJumpsSpec)

/-- 'laws.FnExactClaimOk', WHERE WHAT IT READS IS OF BULK AT MOST 1048576: true; the input reads as it did. -/
def fnExactClaimOkUptoRow : OpenClaim := { program := "yteipebedoalafaa", sum := "9f118198ce23e286776b3243bebfbdc2f43de1e8235bc3885e8fa1f0dc5aa312", func := "loop.example/g03302/laws.FnExactClaimOk", spec := "fnExactClaimOk", apart := false, narrowed := true }
def FnExactClaimOkUptoSaid : Prop := fnExactClaimOkUptoRow.holds Try.pinned (OpenSpec.upto fnExactClaimOkSpec)

/-- 'laws.FnExactTotalOf', WHERE WHAT IT READS IS OF BULK AT MOST 1048576: true; the input reads as it did. -/
def fnExactTotalOfUptoRow : OpenClaim := { program := "yteipebedoalafaa", sum := "9f118198ce23e286776b3243bebfbdc2f43de1e8235bc3885e8fa1f0dc5aa312", func := "loop.example/g03302/laws.FnExactTotalOf", spec := "fnExactTotalOf", apart := false, narrowed := true }
def FnExactTotalOfUptoSaid : Prop := fnExactTotalOfUptoRow.holds Try.pinned (OpenSpec.upto fnExactTotalOfSpec)

/-- 'laws.FnExactReadPosition', WHERE WHAT IT READS IS OF BULK AT MOST 1048576: true; the input reads as it did. -/
def fnExactReadPositionUptoRow : OpenClaim := { program := "yteipebedoalafaa", sum := "9f118198ce23e286776b3243bebfbdc2f43de1e8235bc3885e8fa1f0dc5aa312", func := "loop.example/g03302/laws.FnExactReadPosition", spec := "fnExactReadPosition", apart := false, narrowed := true }
def FnExactReadPositionUptoSaid : Prop := fnExactReadPositionUptoRow.holds Try.pinned (OpenSpec.upto fnExactReadPositionSpec)

/-- 'laws.FnExactEntrantsOk', WHERE WHAT IT READS IS OF BULK AT MOST 1048576: true; the input reads as it did. -/
def fnExactEntrantsOkUptoRow : OpenClaim := { program := "yteipebedoalafaa", sum := "9f118198ce23e286776b3243bebfbdc2f43de1e8235bc3885e8fa1f0dc5aa312", func := "loop.example/g03302/laws.FnExactEntrantsOk", spec := "fnExactEntrantsOk", apart := false, narrowed := true }
def FnExactEntrantsOkUptoSaid : Prop := fnExactEntrantsOkUptoRow.holds Try.pinned (OpenSpec.upto fnExactEntrantsOkSpec)

/-- 'laws.FnExactBestResult', WHERE WHAT IT READS IS OF BULK AT MOST 1048576: true; the input reads as it did. -/
def fnExactBestResultUptoRow : OpenClaim := { program := "yteipebedoalafaa", sum := "9f118198ce23e286776b3243bebfbdc2f43de1e8235bc3885e8fa1f0dc5aa312", func := "loop.example/g03302/laws.FnExactBestResult", spec := "fnExactBestResult", apart := false, narrowed := true }
def FnExactBestResultUptoSaid : Prop := fnExactBestResultUptoRow.holds Try.pinned (OpenSpec.upto fnExactBestResultSpec)

/-- 'laws.FnExactIsSolvable', WHERE WHAT IT READS IS OF BULK AT MOST 1048576: true; the input reads as it did. -/
def fnExactIsSolvableUptoRow : OpenClaim := { program := "yteipebedoalafaa", sum := "9f118198ce23e286776b3243bebfbdc2f43de1e8235bc3885e8fa1f0dc5aa312", func := "loop.example/g03302/laws.FnExactIsSolvable", spec := "fnExactIsSolvable", apart := false, narrowed := true }
def FnExactIsSolvableUptoSaid : Prop := fnExactIsSolvableUptoRow.holds Try.pinned (OpenSpec.upto fnExactIsSolvableSpec)

/-- 'laws.FnExactCountSpoils', WHERE WHAT IT READS IS OF BULK AT MOST 1048576: true; the input reads as it did. -/
def fnExactCountSpoilsUptoRow : OpenClaim := { program := "yteipebedoalafaa", sum := "9f118198ce23e286776b3243bebfbdc2f43de1e8235bc3885e8fa1f0dc5aa312", func := "loop.example/g03302/laws.FnExactCountSpoils", spec := "fnExactCountSpoils", apart := false, narrowed := true }
def FnExactCountSpoilsUptoSaid : Prop := fnExactCountSpoilsUptoRow.holds Try.pinned (OpenSpec.upto fnExactCountSpoilsSpec)

/-- 'laws.FnExactIsSolvedBy', WHERE WHAT IT READS IS OF BULK AT MOST 1048576: true; the input reads as it did. -/
def fnExactIsSolvedByUptoRow : OpenClaim := { program := "yteipebedoalafaa", sum := "9f118198ce23e286776b3243bebfbdc2f43de1e8235bc3885e8fa1f0dc5aa312", func := "loop.example/g03302/laws.FnExactIsSolvedBy", spec := "fnExactIsSolvedBy", apart := false, narrowed := true }
def FnExactIsSolvedByUptoSaid : Prop := fnExactIsSolvedByUptoRow.holds Try.pinned (OpenSpec.upto fnExactIsSolvedBySpec)

/-- 'laws.FnExactMakeGame', WHERE WHAT IT READS IS OF BULK AT MOST 1048576: true; the input reads as it did. -/
def fnExactMakeGameUptoRow : OpenClaim := { program := "yteipebedoalafaa", sum := "9f118198ce23e286776b3243bebfbdc2f43de1e8235bc3885e8fa1f0dc5aa312", func := "loop.example/g03302/laws.FnExactMakeGame", spec := "fnExactMakeGame", apart := false, narrowed := true }
def FnExactMakeGameUptoSaid : Prop := fnExactMakeGameUptoRow.holds Try.pinned (OpenSpec.upto fnExactMakeGameSpec)

/-- 'laws.FnExactHintFor', WHERE WHAT IT READS IS OF BULK AT MOST 1048576: true; the input reads as it did. -/
def fnExactHintForUptoRow : OpenClaim := { program := "yteipebedoalafaa", sum := "9f118198ce23e286776b3243bebfbdc2f43de1e8235bc3885e8fa1f0dc5aa312", func := "loop.example/g03302/laws.FnExactHintFor", spec := "fnExactHintFor", apart := false, narrowed := true }
def FnExactHintForUptoSaid : Prop := fnExactHintForUptoRow.holds Try.pinned (OpenSpec.upto fnExactHintForSpec)

end Rows
end Go.Proofs.Yteipebedoalafaa
