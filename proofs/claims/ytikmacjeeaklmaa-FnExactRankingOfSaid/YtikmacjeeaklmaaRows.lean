/-
  No cell of these rows narrows 'for every input' (looked for: loops, veiled, ifaces, maps, wideKeys, modest, calm, conditions, laid).
  DERIVED. THE GIVEN ROWS OF THIS SEAT. 12 by the template 'for every input the law returns true; each argument reads behind the call as it read before'; 0 by the template 'total and deterministic' (their statements: YtikmacjeeaklmaaTotals.lean).
  GIVEN WITH THE SEED: the statements are not yours to turn. If you find one false, say at which input.
  Laid BY PROGRAM, IN A SANDBOX (cutbox-rows.mjs): the forced cells as the released guide's own fill.sh prints them over the translation 9ed52c729a142ff6… (all of the seat's roots in one cut). By AI agents, Wed Nov 11 2026. No macro, syntax, notation, axiom, sorry.
-/
import Derived.Test.YtikmacjeeaklmaaChecked
import GoSem.Claim
import GoSem.ClaimJoined
import GoSem.ClaimMapViews
import Derived.JoinedTies
import Derived.KernelRfl
namespace Go.Proofs.Ytikmacjeeaklmaa
/- THE CELL 'sum', in the pinned program and in every row, IS THE sha256 OF THE DUMP (.gsa) THAT YtikmacjeeaklmaaProg.lean LOADS. Nothing in Lean hashes anything: it is a label: what it is worth is what the hold of that sum in a sandbox is worth. -/
noncomputable def Try.pinned : Pinned := { name := "ytikmacjeeaklmaa", sum := "9ed52c729a142ff621db7191255400440bdaed860903ecacef774a0be057fdc5", checked := Try.checked }
namespace Rows
def none {H : Type} : Left H := { results := [], args := [] }

/-- 'laws.FnExactMakePuzzle': WHATEVER THE INPUT: true; the input reads as it did. -/
def fnExactMakePuzzleSpec : ChangeSpec := { name := "fnExactMakePuzzle", fn := fun _ => fun
  | [d1, d2, d3, d4] => { results := [.lit (.bool true)], args := [d1, d2, d3, d4] }
  | _ => none }
def fnExactMakePuzzleRow : OpenClaim := { program := "ytikmacjeeaklmaa", sum := "9ed52c729a142ff621db7191255400440bdaed860903ecacef774a0be057fdc5", func := "loop.example/g03302/laws.FnExactMakePuzzle", spec := "fnExactMakePuzzle", plainKeys := false, apart := false }
def FnExactMakePuzzleSaid : Prop := fnExactMakePuzzleRow.holds Try.pinned (OpenSpec.ofChange fnExactMakePuzzleSpec)

/-- ITS FALSE NEIGHBOUR: 'it returns false'. Refute it at one input. -/
def fnExactMakePuzzleWrong : ChangeSpec := { name := "fnExactMakePuzzle", fn := fun _ => fun
  | [d1, d2, d3, d4] => { results := [.lit (.bool false)], args := [d1, d2, d3, d4] }
  | _ => none }
def FnExactMakePuzzleWrongFalsely : Prop := fnExactMakePuzzleRow.holds Try.pinned (OpenSpec.ofChange fnExactMakePuzzleWrong)

/-- 'laws.FnExactVerdictOn': WHATEVER THE INPUT: true; the input reads as it did. -/
def fnExactVerdictOnSpec : ChangeSpec := { name := "fnExactVerdictOn", fn := fun _ => fun
  | [d1, d2, d3] => { results := [.lit (.bool true)], args := [d1, d2, d3] }
  | _ => none }
def fnExactVerdictOnRow : OpenClaim := { program := "ytikmacjeeaklmaa", sum := "9ed52c729a142ff621db7191255400440bdaed860903ecacef774a0be057fdc5", func := "loop.example/g03302/laws.FnExactVerdictOn", spec := "fnExactVerdictOn", plainKeys := false, apart := false }
def FnExactVerdictOnSaid : Prop := fnExactVerdictOnRow.holds Try.pinned (OpenSpec.ofChange fnExactVerdictOnSpec)

/-- ITS FALSE NEIGHBOUR: 'it returns false'. Refute it at one input. -/
def fnExactVerdictOnWrong : ChangeSpec := { name := "fnExactVerdictOn", fn := fun _ => fun
  | [d1, d2, d3] => { results := [.lit (.bool false)], args := [d1, d2, d3] }
  | _ => none }
def FnExactVerdictOnWrongFalsely : Prop := fnExactVerdictOnRow.holds Try.pinned (OpenSpec.ofChange fnExactVerdictOnWrong)

/-- 'laws.FnExactCountHints': WHATEVER THE INPUT: true; the input reads as it did. -/
def fnExactCountHintsSpec : ChangeSpec := { name := "fnExactCountHints", fn := fun _ => fun
  | [d] => { results := [.lit (.bool true)], args := [d] }
  | _ => none }
def fnExactCountHintsRow : OpenClaim := { program := "ytikmacjeeaklmaa", sum := "9ed52c729a142ff621db7191255400440bdaed860903ecacef774a0be057fdc5", func := "loop.example/g03302/laws.FnExactCountHints", spec := "fnExactCountHints", plainKeys := false, apart := false }
def FnExactCountHintsSaid : Prop := fnExactCountHintsRow.holds Try.pinned (OpenSpec.ofChange fnExactCountHintsSpec)

/-- ITS FALSE NEIGHBOUR: 'it returns false'. Refute it at one input. -/
def fnExactCountHintsWrong : ChangeSpec := { name := "fnExactCountHints", fn := fun _ => fun
  | [d] => { results := [.lit (.bool false)], args := [d] }
  | _ => none }
def FnExactCountHintsWrongFalsely : Prop := fnExactCountHintsRow.holds Try.pinned (OpenSpec.ofChange fnExactCountHintsWrong)

/-- 'laws.FnExactDifficultyOf': WHATEVER THE INPUT: true; the input reads as it did. -/
def fnExactDifficultyOfSpec : ChangeSpec := { name := "fnExactDifficultyOf", fn := fun _ => fun
  | [d] => { results := [.lit (.bool true)], args := [d] }
  | _ => none }
def fnExactDifficultyOfRow : OpenClaim := { program := "ytikmacjeeaklmaa", sum := "9ed52c729a142ff621db7191255400440bdaed860903ecacef774a0be057fdc5", func := "loop.example/g03302/laws.FnExactDifficultyOf", spec := "fnExactDifficultyOf", plainKeys := false, apart := false }
def FnExactDifficultyOfSaid : Prop := fnExactDifficultyOfRow.holds Try.pinned (OpenSpec.ofChange fnExactDifficultyOfSpec)

/-- ITS FALSE NEIGHBOUR: 'it returns false'. Refute it at one input. -/
def fnExactDifficultyOfWrong : ChangeSpec := { name := "fnExactDifficultyOf", fn := fun _ => fun
  | [d] => { results := [.lit (.bool false)], args := [d] }
  | _ => none }
def FnExactDifficultyOfWrongFalsely : Prop := fnExactDifficultyOfRow.holds Try.pinned (OpenSpec.ofChange fnExactDifficultyOfWrong)

/-- 'laws.FnExactResultOf': WHATEVER THE INPUT: true; the input reads as it did. -/
def fnExactResultOfSpec : ChangeSpec := { name := "fnExactResultOf", fn := fun _ => fun
  | [d1, d2, d3, d4, d5] => { results := [.lit (.bool true)], args := [d1, d2, d3, d4, d5] }
  | _ => none }
def fnExactResultOfRow : OpenClaim := { program := "ytikmacjeeaklmaa", sum := "9ed52c729a142ff621db7191255400440bdaed860903ecacef774a0be057fdc5", func := "loop.example/g03302/laws.FnExactResultOf", spec := "fnExactResultOf", plainKeys := false, apart := false }
def FnExactResultOfSaid : Prop := fnExactResultOfRow.holds Try.pinned (OpenSpec.ofChange fnExactResultOfSpec)

/-- ITS FALSE NEIGHBOUR: 'it returns false'. Refute it at one input. -/
def fnExactResultOfWrong : ChangeSpec := { name := "fnExactResultOf", fn := fun _ => fun
  | [d1, d2, d3, d4, d5] => { results := [.lit (.bool false)], args := [d1, d2, d3, d4, d5] }
  | _ => none }
def FnExactResultOfWrongFalsely : Prop := fnExactResultOfRow.holds Try.pinned (OpenSpec.ofChange fnExactResultOfWrong)

/-- 'laws.FnExactFirstError': WHATEVER THE INPUT: true; the input reads as it did. -/
def fnExactFirstErrorSpec : ChangeSpec := { name := "fnExactFirstError", fn := fun _ => fun
  | [d1, d2] => { results := [.lit (.bool true)], args := [d1, d2] }
  | _ => none }
def fnExactFirstErrorRow : OpenClaim := { program := "ytikmacjeeaklmaa", sum := "9ed52c729a142ff621db7191255400440bdaed860903ecacef774a0be057fdc5", func := "loop.example/g03302/laws.FnExactFirstError", spec := "fnExactFirstError", plainKeys := false, apart := false }
def FnExactFirstErrorSaid : Prop := fnExactFirstErrorRow.holds Try.pinned (OpenSpec.ofChange fnExactFirstErrorSpec)

/-- ITS FALSE NEIGHBOUR: 'it returns false'. Refute it at one input. -/
def fnExactFirstErrorWrong : ChangeSpec := { name := "fnExactFirstError", fn := fun _ => fun
  | [d1, d2] => { results := [.lit (.bool false)], args := [d1, d2] }
  | _ => none }
def FnExactFirstErrorWrongFalsely : Prop := fnExactFirstErrorRow.holds Try.pinned (OpenSpec.ofChange fnExactFirstErrorWrong)

/-- 'laws.FnExactBestSeed': WHATEVER THE INPUT: true; the input reads as it did. -/
def fnExactBestSeedSpec : ChangeSpec := { name := "fnExactBestSeed", fn := fun _ => fun
  | [d1, d2, d3, d4] => { results := [.lit (.bool true)], args := [d1, d2, d3, d4] }
  | _ => none }
def fnExactBestSeedRow : OpenClaim := { program := "ytikmacjeeaklmaa", sum := "9ed52c729a142ff621db7191255400440bdaed860903ecacef774a0be057fdc5", func := "loop.example/g03302/laws.FnExactBestSeed", spec := "fnExactBestSeed", plainKeys := false, apart := false }
def FnExactBestSeedSaid : Prop := fnExactBestSeedRow.holds Try.pinned (OpenSpec.ofChange fnExactBestSeedSpec)

/-- ITS FALSE NEIGHBOUR: 'it returns false'. Refute it at one input. -/
def fnExactBestSeedWrong : ChangeSpec := { name := "fnExactBestSeed", fn := fun _ => fun
  | [d1, d2, d3, d4] => { results := [.lit (.bool false)], args := [d1, d2, d3, d4] }
  | _ => none }
def FnExactBestSeedWrongFalsely : Prop := fnExactBestSeedRow.holds Try.pinned (OpenSpec.ofChange fnExactBestSeedWrong)

/-- 'laws.FnExactPlacesOf': WHATEVER THE INPUT: true; the input reads as it did. -/
def fnExactPlacesOfSpec : ChangeSpec := { name := "fnExactPlacesOf", fn := fun _ => fun
  | [d] => { results := [.lit (.bool true)], args := [d] }
  | _ => none }
def fnExactPlacesOfRow : OpenClaim := { program := "ytikmacjeeaklmaa", sum := "9ed52c729a142ff621db7191255400440bdaed860903ecacef774a0be057fdc5", func := "loop.example/g03302/laws.FnExactPlacesOf", spec := "fnExactPlacesOf", plainKeys := false, apart := false }
def FnExactPlacesOfSaid : Prop := fnExactPlacesOfRow.holds Try.pinned (OpenSpec.ofChange fnExactPlacesOfSpec)

/-- ITS FALSE NEIGHBOUR: 'it returns false'. Refute it at one input. -/
def fnExactPlacesOfWrong : ChangeSpec := { name := "fnExactPlacesOf", fn := fun _ => fun
  | [d] => { results := [.lit (.bool false)], args := [d] }
  | _ => none }
def FnExactPlacesOfWrongFalsely : Prop := fnExactPlacesOfRow.holds Try.pinned (OpenSpec.ofChange fnExactPlacesOfWrong)

/-- 'laws.FnExactPrizesOf': WHATEVER THE INPUT: true; the input reads as it did. -/
def fnExactPrizesOfSpec : ChangeSpec := { name := "fnExactPrizesOf", fn := fun _ => fun
  | [d1, d2] => { results := [.lit (.bool true)], args := [d1, d2] }
  | _ => none }
def fnExactPrizesOfRow : OpenClaim := { program := "ytikmacjeeaklmaa", sum := "9ed52c729a142ff621db7191255400440bdaed860903ecacef774a0be057fdc5", func := "loop.example/g03302/laws.FnExactPrizesOf", spec := "fnExactPrizesOf", plainKeys := false, apart := false }
def FnExactPrizesOfSaid : Prop := fnExactPrizesOfRow.holds Try.pinned (OpenSpec.ofChange fnExactPrizesOfSpec)

/-- ITS FALSE NEIGHBOUR: 'it returns false'. Refute it at one input. -/
def fnExactPrizesOfWrong : ChangeSpec := { name := "fnExactPrizesOf", fn := fun _ => fun
  | [d1, d2] => { results := [.lit (.bool false)], args := [d1, d2] }
  | _ => none }
def FnExactPrizesOfWrongFalsely : Prop := fnExactPrizesOfRow.holds Try.pinned (OpenSpec.ofChange fnExactPrizesOfWrong)

/-- 'laws.FnExactRankingOf': WHATEVER THE INPUT: true; the input reads as it did. -/
def fnExactRankingOfSpec : ChangeSpec := { name := "fnExactRankingOf", fn := fun _ => fun
  | [d] => { results := [.lit (.bool true)], args := [d] }
  | _ => none }
def fnExactRankingOfRow : OpenClaim := { program := "ytikmacjeeaklmaa", sum := "9ed52c729a142ff621db7191255400440bdaed860903ecacef774a0be057fdc5", func := "loop.example/g03302/laws.FnExactRankingOf", spec := "fnExactRankingOf", unfollowed := true, recurses := true, plainKeys := false, apart := false }
def FnExactRankingOfSaid : Prop := fnExactRankingOfRow.holds Try.pinned (OpenSpec.ofChange fnExactRankingOfSpec)

/-- ITS FALSE NEIGHBOUR: 'it returns false'. Refute it at one input. -/
def fnExactRankingOfWrong : ChangeSpec := { name := "fnExactRankingOf", fn := fun _ => fun
  | [d] => { results := [.lit (.bool false)], args := [d] }
  | _ => none }
def FnExactRankingOfWrongFalsely : Prop := fnExactRankingOfRow.holds Try.pinned (OpenSpec.ofChange fnExactRankingOfWrong)

/-- 'laws.FnExactTruthOf': WHATEVER THE INPUT: true; the input reads as it did. -/
def fnExactTruthOfSpec : ChangeSpec := { name := "fnExactTruthOf", fn := fun _ => fun
  | [d1, d2] => { results := [.lit (.bool true)], args := [d1, d2] }
  | _ => none }
def fnExactTruthOfRow : OpenClaim := { program := "ytikmacjeeaklmaa", sum := "9ed52c729a142ff621db7191255400440bdaed860903ecacef774a0be057fdc5", func := "loop.example/g03302/laws.FnExactTruthOf", spec := "fnExactTruthOf", recurses := true, plainKeys := false, apart := false }
def FnExactTruthOfSaid : Prop := fnExactTruthOfRow.holds Try.pinned (OpenSpec.ofChange fnExactTruthOfSpec)

/-- ITS FALSE NEIGHBOUR: 'it returns false'. Refute it at one input. -/
def fnExactTruthOfWrong : ChangeSpec := { name := "fnExactTruthOf", fn := fun _ => fun
  | [d1, d2] => { results := [.lit (.bool false)], args := [d1, d2] }
  | _ => none }
def FnExactTruthOfWrongFalsely : Prop := fnExactTruthOfRow.holds Try.pinned (OpenSpec.ofChange fnExactTruthOfWrong)

/-- 'laws.FnExactCheckClaim': WHATEVER THE INPUT: true; the input reads as it did. -/
def fnExactCheckClaimSpec : ChangeSpec := { name := "fnExactCheckClaim", fn := fun _ => fun
  | [d1, d2] => { results := [.lit (.bool true)], args := [d1, d2] }
  | _ => none }
def fnExactCheckClaimRow : OpenClaim := { program := "ytikmacjeeaklmaa", sum := "9ed52c729a142ff621db7191255400440bdaed860903ecacef774a0be057fdc5", func := "loop.example/g03302/laws.FnExactCheckClaim", spec := "fnExactCheckClaim", plainKeys := false, apart := false }
def FnExactCheckClaimSaid : Prop := fnExactCheckClaimRow.holds Try.pinned (OpenSpec.ofChange fnExactCheckClaimSpec)

/-- ITS FALSE NEIGHBOUR: 'it returns false'. Refute it at one input. -/
def fnExactCheckClaimWrong : ChangeSpec := { name := "fnExactCheckClaim", fn := fun _ => fun
  | [d1, d2] => { results := [.lit (.bool false)], args := [d1, d2] }
  | _ => none }
def FnExactCheckClaimWrongFalsely : Prop := fnExactCheckClaimRow.holds Try.pinned (OpenSpec.ofChange fnExactCheckClaimWrong)

/- THE SECOND FORM. 'bulk': how many values and letters a reading holds, each counted each time it is reached (what is shared counts as often as it is met; a slice's spare places count too). A statement '..UptoSaid' is the law's where the arguments, and the package variables that the reading takes, are together of bulk at most 1048576: NARROWER than '..Said'. Prove '..Said' where nothing that the law and all that it calls make is longer than what came in: it says more and counts as full. Else prove '..UptoSaid'. A law counts once. -/
mutual
def uptoBulk {H : Type} : DataW H → Nat
  | .lit (.string bytes) => bytes.length + 1
  | .lit _ => 1
  | .nil => 1
  | .ptr d => uptoBulk d + 1
  | .slice elems spare => uptoBulkAll elems + uptoBulkAll spare + 1
  | .agg parts => uptoBulkAll parts + 1
  | .iface _ d => uptoBulk d + 1
  | .map entries => uptoBulkEntries entries + 1
  | .held _ => 1
def uptoBulkAll {H : Type} : List (DataW H) → Nat
  | [] => 0
  | d :: r => uptoBulk d + uptoBulkAll r
def uptoBulkEntries {H : Type} : List (Lit × DataW H) → Nat
  | [] => 0
  | x :: r => uptoBulkEntry x + uptoBulkEntries r
def uptoBulkEntry {H : Type} : Lit × DataW H → Nat
  | (.string bytes, d) => bytes.length + uptoBulk d + 1
  | (_, d) => uptoBulk d + 1
 end
def uptoSmall : (H : Type) → List (DataW H) → Bool := fun _ ds => decide (uptoBulkAll ds ≤ 1048576)
def OpenSpec.upto (s : _root_.Go.ChangeSpec) : _root_.Go.OpenSpec := { _root_.Go.OpenSpec.ofChange s with cond := some uptoSmall }

/-- 'laws.FnExactMakePuzzle', WHERE WHAT IT READS IS OF BULK AT MOST 1048576: true; the input reads as it did. -/
def fnExactMakePuzzleUptoRow : OpenClaim := { program := "ytikmacjeeaklmaa", sum := "9ed52c729a142ff621db7191255400440bdaed860903ecacef774a0be057fdc5", func := "loop.example/g03302/laws.FnExactMakePuzzle", spec := "fnExactMakePuzzle", plainKeys := false, apart := false, narrowed := true }
def FnExactMakePuzzleUptoSaid : Prop := fnExactMakePuzzleUptoRow.holds Try.pinned (OpenSpec.upto fnExactMakePuzzleSpec)

/-- 'laws.FnExactVerdictOn', WHERE WHAT IT READS IS OF BULK AT MOST 1048576: true; the input reads as it did. -/
def fnExactVerdictOnUptoRow : OpenClaim := { program := "ytikmacjeeaklmaa", sum := "9ed52c729a142ff621db7191255400440bdaed860903ecacef774a0be057fdc5", func := "loop.example/g03302/laws.FnExactVerdictOn", spec := "fnExactVerdictOn", plainKeys := false, apart := false, narrowed := true }
def FnExactVerdictOnUptoSaid : Prop := fnExactVerdictOnUptoRow.holds Try.pinned (OpenSpec.upto fnExactVerdictOnSpec)

/-- 'laws.FnExactCountHints', WHERE WHAT IT READS IS OF BULK AT MOST 1048576: true; the input reads as it did. -/
def fnExactCountHintsUptoRow : OpenClaim := { program := "ytikmacjeeaklmaa", sum := "9ed52c729a142ff621db7191255400440bdaed860903ecacef774a0be057fdc5", func := "loop.example/g03302/laws.FnExactCountHints", spec := "fnExactCountHints", plainKeys := false, apart := false, narrowed := true }
def FnExactCountHintsUptoSaid : Prop := fnExactCountHintsUptoRow.holds Try.pinned (OpenSpec.upto fnExactCountHintsSpec)

/-- 'laws.FnExactDifficultyOf', WHERE WHAT IT READS IS OF BULK AT MOST 1048576: true; the input reads as it did. -/
def fnExactDifficultyOfUptoRow : OpenClaim := { program := "ytikmacjeeaklmaa", sum := "9ed52c729a142ff621db7191255400440bdaed860903ecacef774a0be057fdc5", func := "loop.example/g03302/laws.FnExactDifficultyOf", spec := "fnExactDifficultyOf", plainKeys := false, apart := false, narrowed := true }
def FnExactDifficultyOfUptoSaid : Prop := fnExactDifficultyOfUptoRow.holds Try.pinned (OpenSpec.upto fnExactDifficultyOfSpec)

/-- 'laws.FnExactResultOf', WHERE WHAT IT READS IS OF BULK AT MOST 1048576: true; the input reads as it did. -/
def fnExactResultOfUptoRow : OpenClaim := { program := "ytikmacjeeaklmaa", sum := "9ed52c729a142ff621db7191255400440bdaed860903ecacef774a0be057fdc5", func := "loop.example/g03302/laws.FnExactResultOf", spec := "fnExactResultOf", plainKeys := false, apart := false, narrowed := true }
def FnExactResultOfUptoSaid : Prop := fnExactResultOfUptoRow.holds Try.pinned (OpenSpec.upto fnExactResultOfSpec)

/-- 'laws.FnExactFirstError', WHERE WHAT IT READS IS OF BULK AT MOST 1048576: true; the input reads as it did. -/
def fnExactFirstErrorUptoRow : OpenClaim := { program := "ytikmacjeeaklmaa", sum := "9ed52c729a142ff621db7191255400440bdaed860903ecacef774a0be057fdc5", func := "loop.example/g03302/laws.FnExactFirstError", spec := "fnExactFirstError", plainKeys := false, apart := false, narrowed := true }
def FnExactFirstErrorUptoSaid : Prop := fnExactFirstErrorUptoRow.holds Try.pinned (OpenSpec.upto fnExactFirstErrorSpec)

/-- 'laws.FnExactBestSeed', WHERE WHAT IT READS IS OF BULK AT MOST 1048576: true; the input reads as it did. -/
def fnExactBestSeedUptoRow : OpenClaim := { program := "ytikmacjeeaklmaa", sum := "9ed52c729a142ff621db7191255400440bdaed860903ecacef774a0be057fdc5", func := "loop.example/g03302/laws.FnExactBestSeed", spec := "fnExactBestSeed", plainKeys := false, apart := false, narrowed := true }
def FnExactBestSeedUptoSaid : Prop := fnExactBestSeedUptoRow.holds Try.pinned (OpenSpec.upto fnExactBestSeedSpec)

/-- 'laws.FnExactPlacesOf', WHERE WHAT IT READS IS OF BULK AT MOST 1048576: true; the input reads as it did. -/
def fnExactPlacesOfUptoRow : OpenClaim := { program := "ytikmacjeeaklmaa", sum := "9ed52c729a142ff621db7191255400440bdaed860903ecacef774a0be057fdc5", func := "loop.example/g03302/laws.FnExactPlacesOf", spec := "fnExactPlacesOf", plainKeys := false, apart := false, narrowed := true }
def FnExactPlacesOfUptoSaid : Prop := fnExactPlacesOfUptoRow.holds Try.pinned (OpenSpec.upto fnExactPlacesOfSpec)

/-- 'laws.FnExactPrizesOf', WHERE WHAT IT READS IS OF BULK AT MOST 1048576: true; the input reads as it did. -/
def fnExactPrizesOfUptoRow : OpenClaim := { program := "ytikmacjeeaklmaa", sum := "9ed52c729a142ff621db7191255400440bdaed860903ecacef774a0be057fdc5", func := "loop.example/g03302/laws.FnExactPrizesOf", spec := "fnExactPrizesOf", plainKeys := false, apart := false, narrowed := true }
def FnExactPrizesOfUptoSaid : Prop := fnExactPrizesOfUptoRow.holds Try.pinned (OpenSpec.upto fnExactPrizesOfSpec)

/-- 'laws.FnExactRankingOf', WHERE WHAT IT READS IS OF BULK AT MOST 1048576: true; the input reads as it did. -/
def fnExactRankingOfUptoRow : OpenClaim := { program := "ytikmacjeeaklmaa", sum := "9ed52c729a142ff621db7191255400440bdaed860903ecacef774a0be057fdc5", func := "loop.example/g03302/laws.FnExactRankingOf", spec := "fnExactRankingOf", unfollowed := true, recurses := true, plainKeys := false, apart := false, narrowed := true }
def FnExactRankingOfUptoSaid : Prop := fnExactRankingOfUptoRow.holds Try.pinned (OpenSpec.upto fnExactRankingOfSpec)

/-- 'laws.FnExactTruthOf', WHERE WHAT IT READS IS OF BULK AT MOST 1048576: true; the input reads as it did. -/
def fnExactTruthOfUptoRow : OpenClaim := { program := "ytikmacjeeaklmaa", sum := "9ed52c729a142ff621db7191255400440bdaed860903ecacef774a0be057fdc5", func := "loop.example/g03302/laws.FnExactTruthOf", spec := "fnExactTruthOf", recurses := true, plainKeys := false, apart := false, narrowed := true }
def FnExactTruthOfUptoSaid : Prop := fnExactTruthOfUptoRow.holds Try.pinned (OpenSpec.upto fnExactTruthOfSpec)

/-- 'laws.FnExactCheckClaim', WHERE WHAT IT READS IS OF BULK AT MOST 1048576: true; the input reads as it did. -/
def fnExactCheckClaimUptoRow : OpenClaim := { program := "ytikmacjeeaklmaa", sum := "9ed52c729a142ff621db7191255400440bdaed860903ecacef774a0be057fdc5", func := "loop.example/g03302/laws.FnExactCheckClaim", spec := "fnExactCheckClaim", plainKeys := false, apart := false, narrowed := true }
def FnExactCheckClaimUptoSaid : Prop := fnExactCheckClaimUptoRow.holds Try.pinned (OpenSpec.upto fnExactCheckClaimSpec)

end Rows
end Go.Proofs.Ytikmacjeeaklmaa
