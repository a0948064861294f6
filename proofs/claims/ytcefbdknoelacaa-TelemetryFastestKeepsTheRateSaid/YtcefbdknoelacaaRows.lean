/-
  No cell of these rows narrows 'for every input' (looked for: loops, veiled, ifaces, maps, wideKeys, modest, calm, conditions, laid).
  DERIVED. THE GIVEN ROWS OF THIS SEAT. 13 by the template 'for every input the law returns true; each argument reads behind the call as it read before'; 0 by the template 'total and deterministic' (their statements: YtcefbdknoelacaaTotals.lean).
  GIVEN WITH THE SEED: the statements are not yours to turn. If you find one false, say at which input.
  Laid BY PROGRAM, IN A SANDBOX (cutbox-rows.mjs): the forced cells as the released guide's own fill.sh prints them over the translation 1f71a739f1199625… (all of the seat's roots in one cut). By AI agents, Wed Nov 11 2026. No macro, syntax, notation, axiom, sorry.
-/
import Derived.Test.YtcefbdknoelacaaChecked
import GoSem.Claim
import GoSem.ClaimJoined
import GoSem.ClaimMapViews
import Derived.JoinedTies
import Derived.KernelRfl
namespace Go.Proofs.Ytcefbdknoelacaa
/- THE CELL 'sum', in the pinned program and in every row, IS THE sha256 OF THE DUMP (.gsa) THAT YtcefbdknoelacaaProg.lean LOADS. Nothing in Lean hashes anything: it is a label: what it is worth is what the hold of that sum in a sandbox is worth. -/
noncomputable def Try.pinned : Pinned := { name := "ytcefbdknoelacaa", sum := "1f71a739f119962570aaf94b49311f86884aa6da231088a56444f9d007f37ff5", checked := Try.checked }
namespace Rows
def none {H : Type} : Left H := { results := [], args := [] }

/-- 'perigeelaw7.TelemetryValuesMatchSpec': WHATEVER THE INPUT: true; the input reads as it did. -/
def telemetryValuesMatchSpecSpec : ChangeSpec := { name := "telemetryValuesMatchSpec", fn := fun _ => fun
  | [d1, d2, d3] => { results := [.lit (.bool true)], args := [d1, d2, d3] }
  | _ => none }
def telemetryValuesMatchSpecRow : OpenClaim := { program := "ytcefbdknoelacaa", sum := "1f71a739f119962570aaf94b49311f86884aa6da231088a56444f9d007f37ff5", func := "perigee/perigeelaw7.TelemetryValuesMatchSpec", spec := "telemetryValuesMatchSpec", inPlace := ["internal/bytealg.abigen_runtime_cmpstring"], unfollowed := true, recurses := true, apart := false }
def TelemetryValuesMatchSpecSaid : Prop := telemetryValuesMatchSpecRow.holds Try.pinned (OpenSpec.ofChange telemetryValuesMatchSpecSpec)

/-- ITS FALSE NEIGHBOUR: 'it returns false'. Refute it at one input. -/
def telemetryValuesMatchSpecWrong : ChangeSpec := { name := "telemetryValuesMatchSpec", fn := fun _ => fun
  | [d1, d2, d3] => { results := [.lit (.bool false)], args := [d1, d2, d3] }
  | _ => none }
def TelemetryValuesMatchSpecWrongFalsely : Prop := telemetryValuesMatchSpecRow.holds Try.pinned (OpenSpec.ofChange telemetryValuesMatchSpecWrong)

/-- 'perigeelaw7.TelemetryRawMatchesSpec': WHATEVER THE INPUT: true; the input reads as it did. -/
def telemetryRawMatchesSpecSpec : ChangeSpec := { name := "telemetryRawMatchesSpec", fn := fun _ => fun
  | [d1, d2, d3] => { results := [.lit (.bool true)], args := [d1, d2, d3] }
  | _ => none }
def telemetryRawMatchesSpecRow : OpenClaim := { program := "ytcefbdknoelacaa", sum := "1f71a739f119962570aaf94b49311f86884aa6da231088a56444f9d007f37ff5", func := "perigee/perigeelaw7.TelemetryRawMatchesSpec", spec := "telemetryRawMatchesSpec", inPlace := ["internal/bytealg.abigen_runtime_cmpstring"], unfollowed := true, recurses := true, apart := false }
def TelemetryRawMatchesSpecSaid : Prop := telemetryRawMatchesSpecRow.holds Try.pinned (OpenSpec.ofChange telemetryRawMatchesSpecSpec)

/-- ITS FALSE NEIGHBOUR: 'it returns false'. Refute it at one input. -/
def telemetryRawMatchesSpecWrong : ChangeSpec := { name := "telemetryRawMatchesSpec", fn := fun _ => fun
  | [d1, d2, d3] => { results := [.lit (.bool false)], args := [d1, d2, d3] }
  | _ => none }
def TelemetryRawMatchesSpecWrongFalsely : Prop := telemetryRawMatchesSpecRow.holds Try.pinned (OpenSpec.ofChange telemetryRawMatchesSpecWrong)

/-- 'perigeetop.TopCodesAreTold': WHATEVER THE INPUT: true; the input reads as it did. -/
def topCodesAreToldSpec : ChangeSpec := { name := "topCodesAreTold", fn := fun _ => fun
  | [d] => { results := [.lit (.bool true)], args := [d] }
  | _ => none }
def topCodesAreToldRow : OpenClaim := { program := "ytcefbdknoelacaa", sum := "1f71a739f119962570aaf94b49311f86884aa6da231088a56444f9d007f37ff5", func := "perigee/perigeetop.TopCodesAreTold", spec := "topCodesAreTold", inPlace := ["internal/bytealg.abigen_runtime_cmpstring"], unfollowed := true, recurses := true, apart := false }
def TopCodesAreToldSaid : Prop := topCodesAreToldRow.holds Try.pinned (OpenSpec.ofChange topCodesAreToldSpec)

/-- ITS FALSE NEIGHBOUR: 'it returns false'. Refute it at one input. -/
def topCodesAreToldWrong : ChangeSpec := { name := "topCodesAreTold", fn := fun _ => fun
  | [d] => { results := [.lit (.bool false)], args := [d] }
  | _ => none }
def TopCodesAreToldWrongFalsely : Prop := topCodesAreToldRow.holds Try.pinned (OpenSpec.ofChange topCodesAreToldWrong)

/-- 'perigeelaw7.TelemetryRawOfValue': WHATEVER THE INPUT: true; the input reads as it did. -/
def telemetryRawOfValueSpec : ChangeSpec := { name := "telemetryRawOfValue", fn := fun _ => fun
  | [d1, d2, d3] => { results := [.lit (.bool true)], args := [d1, d2, d3] }
  | _ => none }
def telemetryRawOfValueRow : OpenClaim := { program := "ytcefbdknoelacaa", sum := "1f71a739f119962570aaf94b49311f86884aa6da231088a56444f9d007f37ff5", func := "perigee/perigeelaw7.TelemetryRawOfValue", spec := "telemetryRawOfValue", inPlace := ["internal/bytealg.abigen_runtime_cmpstring"], unfollowed := true, recurses := true, apart := false }
def TelemetryRawOfValueSaid : Prop := telemetryRawOfValueRow.holds Try.pinned (OpenSpec.ofChange telemetryRawOfValueSpec)

/-- ITS FALSE NEIGHBOUR: 'it returns false'. Refute it at one input. -/
def telemetryRawOfValueWrong : ChangeSpec := { name := "telemetryRawOfValue", fn := fun _ => fun
  | [d1, d2, d3] => { results := [.lit (.bool false)], args := [d1, d2, d3] }
  | _ => none }
def TelemetryRawOfValueWrongFalsely : Prop := telemetryRawOfValueRow.holds Try.pinned (OpenSpec.ofChange telemetryRawOfValueWrong)

/-- 'perigeelaw7.TelemetryPlansMatchSpec': WHATEVER THE INPUT: true; the input reads as it did. -/
def telemetryPlansMatchSpecSpec : ChangeSpec := { name := "telemetryPlansMatchSpec", fn := fun _ => fun
  | [d1, d2, d3, d4, d5] => { results := [.lit (.bool true)], args := [d1, d2, d3, d4, d5] }
  | _ => none }
def telemetryPlansMatchSpecRow : OpenClaim := { program := "ytcefbdknoelacaa", sum := "1f71a739f119962570aaf94b49311f86884aa6da231088a56444f9d007f37ff5", func := "perigee/perigeelaw7.TelemetryPlansMatchSpec", spec := "telemetryPlansMatchSpec", inPlace := ["internal/bytealg.abigen_runtime_cmpstring"], unfollowed := true, recurses := true, apart := false }
def TelemetryPlansMatchSpecSaid : Prop := telemetryPlansMatchSpecRow.holds Try.pinned (OpenSpec.ofChange telemetryPlansMatchSpecSpec)

/-- ITS FALSE NEIGHBOUR: 'it returns false'. Refute it at one input. -/
def telemetryPlansMatchSpecWrong : ChangeSpec := { name := "telemetryPlansMatchSpec", fn := fun _ => fun
  | [d1, d2, d3, d4, d5] => { results := [.lit (.bool false)], args := [d1, d2, d3, d4, d5] }
  | _ => none }
def TelemetryPlansMatchSpecWrongFalsely : Prop := telemetryPlansMatchSpecRow.holds Try.pinned (OpenSpec.ofChange telemetryPlansMatchSpecWrong)

/-- 'perigeelaw7.TelemetryFilledIsEmptied': WHATEVER THE INPUT: true; the input reads as it did. -/
def telemetryFilledIsEmptiedSpec : ChangeSpec := { name := "telemetryFilledIsEmptied", fn := fun _ => fun
  | [d1, d2, d3, d4, d5] => { results := [.lit (.bool true)], args := [d1, d2, d3, d4, d5] }
  | _ => none }
def telemetryFilledIsEmptiedRow : OpenClaim := { program := "ytcefbdknoelacaa", sum := "1f71a739f119962570aaf94b49311f86884aa6da231088a56444f9d007f37ff5", func := "perigee/perigeelaw7.TelemetryFilledIsEmptied", spec := "telemetryFilledIsEmptied", inPlace := ["internal/bytealg.abigen_runtime_cmpstring"], unfollowed := true, recurses := true, apart := false }
def TelemetryFilledIsEmptiedSaid : Prop := telemetryFilledIsEmptiedRow.holds Try.pinned (OpenSpec.ofChange telemetryFilledIsEmptiedSpec)

/-- ITS FALSE NEIGHBOUR: 'it returns false'. Refute it at one input. -/
def telemetryFilledIsEmptiedWrong : ChangeSpec := { name := "telemetryFilledIsEmptied", fn := fun _ => fun
  | [d1, d2, d3, d4, d5] => { results := [.lit (.bool false)], args := [d1, d2, d3, d4, d5] }
  | _ => none }
def TelemetryFilledIsEmptiedWrongFalsely : Prop := telemetryFilledIsEmptiedRow.holds Try.pinned (OpenSpec.ofChange telemetryFilledIsEmptiedWrong)

/-- 'perigeelaw7.TelemetrySentInParts': WHATEVER THE INPUT: true; the input reads as it did. -/
def telemetrySentInPartsSpec : ChangeSpec := { name := "telemetrySentInParts", fn := fun _ => fun
  | [d1, d2, d3, d4, d5, d6] => { results := [.lit (.bool true)], args := [d1, d2, d3, d4, d5, d6] }
  | _ => none }
def telemetrySentInPartsRow : OpenClaim := { program := "ytcefbdknoelacaa", sum := "1f71a739f119962570aaf94b49311f86884aa6da231088a56444f9d007f37ff5", func := "perigee/perigeelaw7.TelemetrySentInParts", spec := "telemetrySentInParts", inPlace := ["internal/bytealg.abigen_runtime_cmpstring"], unfollowed := true, recurses := true, apart := false }
def TelemetrySentInPartsSaid : Prop := telemetrySentInPartsRow.holds Try.pinned (OpenSpec.ofChange telemetrySentInPartsSpec)

/-- ITS FALSE NEIGHBOUR: 'it returns false'. Refute it at one input. -/
def telemetrySentInPartsWrong : ChangeSpec := { name := "telemetrySentInParts", fn := fun _ => fun
  | [d1, d2, d3, d4, d5, d6] => { results := [.lit (.bool false)], args := [d1, d2, d3, d4, d5, d6] }
  | _ => none }
def TelemetrySentInPartsWrongFalsely : Prop := telemetrySentInPartsRow.holds Try.pinned (OpenSpec.ofChange telemetrySentInPartsWrong)

/-- 'perigeelaw7.TelemetryLayoutsMatchSpec': WHATEVER THE INPUT: true; the input reads as it did. -/
def telemetryLayoutsMatchSpecSpec : ChangeSpec := { name := "telemetryLayoutsMatchSpec", fn := fun _ => fun
  | [d1, d2, d3, d4, d5] => { results := [.lit (.bool true)], args := [d1, d2, d3, d4, d5] }
  | _ => none }
def telemetryLayoutsMatchSpecRow : OpenClaim := { program := "ytcefbdknoelacaa", sum := "1f71a739f119962570aaf94b49311f86884aa6da231088a56444f9d007f37ff5", func := "perigee/perigeelaw7.TelemetryLayoutsMatchSpec", spec := "telemetryLayoutsMatchSpec", inPlace := ["internal/bytealg.abigen_runtime_cmpstring"], unfollowed := true, recurses := true, apart := false }
def TelemetryLayoutsMatchSpecSaid : Prop := telemetryLayoutsMatchSpecRow.holds Try.pinned (OpenSpec.ofChange telemetryLayoutsMatchSpecSpec)

/-- ITS FALSE NEIGHBOUR: 'it returns false'. Refute it at one input. -/
def telemetryLayoutsMatchSpecWrong : ChangeSpec := { name := "telemetryLayoutsMatchSpec", fn := fun _ => fun
  | [d1, d2, d3, d4, d5] => { results := [.lit (.bool false)], args := [d1, d2, d3, d4, d5] }
  | _ => none }
def TelemetryLayoutsMatchSpecWrongFalsely : Prop := telemetryLayoutsMatchSpecRow.holds Try.pinned (OpenSpec.ofChange telemetryLayoutsMatchSpecWrong)

/-- 'perigeelaw7.TelemetryChangedIsNow': WHATEVER THE INPUT: true; the input reads as it did. -/
def telemetryChangedIsNowSpec : ChangeSpec := { name := "telemetryChangedIsNow", fn := fun _ => fun
  | [d1, d2, d3, d4, d5] => { results := [.lit (.bool true)], args := [d1, d2, d3, d4, d5] }
  | _ => none }
def telemetryChangedIsNowRow : OpenClaim := { program := "ytcefbdknoelacaa", sum := "1f71a739f119962570aaf94b49311f86884aa6da231088a56444f9d007f37ff5", func := "perigee/perigeelaw7.TelemetryChangedIsNow", spec := "telemetryChangedIsNow", inPlace := ["internal/bytealg.abigen_runtime_cmpstring"], unfollowed := true, recurses := true, apart := false }
def TelemetryChangedIsNowSaid : Prop := telemetryChangedIsNowRow.holds Try.pinned (OpenSpec.ofChange telemetryChangedIsNowSpec)

/-- ITS FALSE NEIGHBOUR: 'it returns false'. Refute it at one input. -/
def telemetryChangedIsNowWrong : ChangeSpec := { name := "telemetryChangedIsNow", fn := fun _ => fun
  | [d1, d2, d3, d4, d5] => { results := [.lit (.bool false)], args := [d1, d2, d3, d4, d5] }
  | _ => none }
def TelemetryChangedIsNowWrongFalsely : Prop := telemetryChangedIsNowRow.holds Try.pinned (OpenSpec.ofChange telemetryChangedIsNowWrong)

/-- 'perigeelaw7.TelemetryChangesMatchSpec': WHATEVER THE INPUT: true; the input reads as it did. -/
def telemetryChangesMatchSpecSpec : ChangeSpec := { name := "telemetryChangesMatchSpec", fn := fun _ => fun
  | [d1, d2, d3, d4, d5, d6] => { results := [.lit (.bool true)], args := [d1, d2, d3, d4, d5, d6] }
  | _ => none }
def telemetryChangesMatchSpecRow : OpenClaim := { program := "ytcefbdknoelacaa", sum := "1f71a739f119962570aaf94b49311f86884aa6da231088a56444f9d007f37ff5", func := "perigee/perigeelaw7.TelemetryChangesMatchSpec", spec := "telemetryChangesMatchSpec", inPlace := ["internal/bytealg.abigen_runtime_cmpstring"], unfollowed := true, recurses := true, apart := false }
def TelemetryChangesMatchSpecSaid : Prop := telemetryChangesMatchSpecRow.holds Try.pinned (OpenSpec.ofChange telemetryChangesMatchSpecSpec)

/-- ITS FALSE NEIGHBOUR: 'it returns false'. Refute it at one input. -/
def telemetryChangesMatchSpecWrong : ChangeSpec := { name := "telemetryChangesMatchSpec", fn := fun _ => fun
  | [d1, d2, d3, d4, d5, d6] => { results := [.lit (.bool false)], args := [d1, d2, d3, d4, d5, d6] }
  | _ => none }
def TelemetryChangesMatchSpecWrongFalsely : Prop := telemetryChangesMatchSpecRow.holds Try.pinned (OpenSpec.ofChange telemetryChangesMatchSpecWrong)

/-- 'perigeelaw7.TelemetryFastestKeepsTheRate': WHATEVER THE INPUT: true; the input reads as it did. -/
def telemetryFastestKeepsTheRateSpec : ChangeSpec := { name := "telemetryFastestKeepsTheRate", fn := fun _ => fun
  | [d1, d2, d3, d4] => { results := [.lit (.bool true)], args := [d1, d2, d3, d4] }
  | _ => none }
def telemetryFastestKeepsTheRateRow : OpenClaim := { program := "ytcefbdknoelacaa", sum := "1f71a739f119962570aaf94b49311f86884aa6da231088a56444f9d007f37ff5", func := "perigee/perigeelaw7.TelemetryFastestKeepsTheRate", spec := "telemetryFastestKeepsTheRate", inPlace := ["internal/bytealg.abigen_runtime_cmpstring"], unfollowed := true, recurses := true, apart := false }
def TelemetryFastestKeepsTheRateSaid : Prop := telemetryFastestKeepsTheRateRow.holds Try.pinned (OpenSpec.ofChange telemetryFastestKeepsTheRateSpec)

/-- ITS FALSE NEIGHBOUR: 'it returns false'. Refute it at one input. -/
def telemetryFastestKeepsTheRateWrong : ChangeSpec := { name := "telemetryFastestKeepsTheRate", fn := fun _ => fun
  | [d1, d2, d3, d4] => { results := [.lit (.bool false)], args := [d1, d2, d3, d4] }
  | _ => none }
def TelemetryFastestKeepsTheRateWrongFalsely : Prop := telemetryFastestKeepsTheRateRow.holds Try.pinned (OpenSpec.ofChange telemetryFastestKeepsTheRateWrong)

/-- 'perigeelaw7.TelemetryLoadIsNeverPassed': WHATEVER THE INPUT: true; the input reads as it did. -/
def telemetryLoadIsNeverPassedSpec : ChangeSpec := { name := "telemetryLoadIsNeverPassed", fn := fun _ => fun
  | [d1, d2, d3, d4, d5] => { results := [.lit (.bool true)], args := [d1, d2, d3, d4, d5] }
  | _ => none }
def telemetryLoadIsNeverPassedRow : OpenClaim := { program := "ytcefbdknoelacaa", sum := "1f71a739f119962570aaf94b49311f86884aa6da231088a56444f9d007f37ff5", func := "perigee/perigeelaw7.TelemetryLoadIsNeverPassed", spec := "telemetryLoadIsNeverPassed", inPlace := ["internal/bytealg.abigen_runtime_cmpstring"], unfollowed := true, recurses := true, apart := false }
def TelemetryLoadIsNeverPassedSaid : Prop := telemetryLoadIsNeverPassedRow.holds Try.pinned (OpenSpec.ofChange telemetryLoadIsNeverPassedSpec)

/-- ITS FALSE NEIGHBOUR: 'it returns false'. Refute it at one input. -/
def telemetryLoadIsNeverPassedWrong : ChangeSpec := { name := "telemetryLoadIsNeverPassed", fn := fun _ => fun
  | [d1, d2, d3, d4, d5] => { results := [.lit (.bool false)], args := [d1, d2, d3, d4, d5] }
  | _ => none }
def TelemetryLoadIsNeverPassedWrongFalsely : Prop := telemetryLoadIsNeverPassedRow.holds Try.pinned (OpenSpec.ofChange telemetryLoadIsNeverPassedWrong)

/-- 'perigeelaw7.TelemetryLoadMatchesSpec': WHATEVER THE INPUT: true; the input reads as it did. -/
def telemetryLoadMatchesSpecSpec : ChangeSpec := { name := "telemetryLoadMatchesSpec", fn := fun _ => fun
  | [d1, d2, d3, d4, d5, d6] => { results := [.lit (.bool true)], args := [d1, d2, d3, d4, d5, d6] }
  | _ => none }
def telemetryLoadMatchesSpecRow : OpenClaim := { program := "ytcefbdknoelacaa", sum := "1f71a739f119962570aaf94b49311f86884aa6da231088a56444f9d007f37ff5", func := "perigee/perigeelaw7.TelemetryLoadMatchesSpec", spec := "telemetryLoadMatchesSpec", inPlace := ["internal/bytealg.abigen_runtime_cmpstring"], unfollowed := true, recurses := true, apart := false }
def TelemetryLoadMatchesSpecSaid : Prop := telemetryLoadMatchesSpecRow.holds Try.pinned (OpenSpec.ofChange telemetryLoadMatchesSpecSpec)

/-- ITS FALSE NEIGHBOUR: 'it returns false'. Refute it at one input. -/
def telemetryLoadMatchesSpecWrong : ChangeSpec := { name := "telemetryLoadMatchesSpec", fn := fun _ => fun
  | [d1, d2, d3, d4, d5, d6] => { results := [.lit (.bool false)], args := [d1, d2, d3, d4, d5, d6] }
  | _ => none }
def TelemetryLoadMatchesSpecWrongFalsely : Prop := telemetryLoadMatchesSpecRow.holds Try.pinned (OpenSpec.ofChange telemetryLoadMatchesSpecWrong)

/- THE SECOND FORM. 'bulk': how many values and letters a reading holds, each counted each time it is reached (what is shared counts as often as it is met; a slice's spare places count too). A statement '..UptoSaid' is the law's where the arguments, and the package variables that the reading takes, are together of bulk at most 1048576: NARROWER than '..Said'. Prove '..Said' where nothing that the law and all that it calls make is longer than what came in: it says more and counts as full. Else prove '..UptoSaid'. A law counts once. -/
mutual
def uptoBulk {H : Type} : DataW H → Nat
  | .lit (.string bytes) => bytes.length + 1
  | .lit _ => 1
  | .nil => 1
  | .ptr d => uptoBulk d + 1
  | .slice elems spare => uptoBulkAll elems + uptoBulkAll spare + 1
  | .agg parts => uptoBulkAll parts + 1
  | .iface _ d => uptoBulk d + 1
  | .map entries => uptoBulkEntries entries + 1
  | .held _ => 1
def uptoBulkAll {H : Type} : List (DataW H) → Nat
  | [] => 0
  | d :: r => uptoBulk d + uptoBulkAll r
def uptoBulkEntries {H : Type} : List (Lit × DataW H) → Nat
  | [] => 0
  | x :: r => uptoBulkEntry x + uptoBulkEntries r
def uptoBulkEntry {H : Type} : Lit × DataW H → Nat
  | (.string bytes, d) => bytes.length + uptoBulk d + 1
  | (_, d) => uptoBulk d + 1
 end
def uptoSmall : (H : Type) → List (DataW H) → Bool := fun _ ds => decide (uptoBulkAll ds ≤ 1048576)
def OpenSpec.upto (s : _root_.Go.ChangeSpec) : _root_.Go.OpenSpec := { _root_.Go.OpenSpec.ofChange s with cond := some uptoSmall }

/-- 'perigeelaw7.TelemetryValuesMatchSpec', WHERE WHAT IT READS IS OF BULK AT MOST 1048576: true; the input reads as it did. -/
def telemetryValuesMatchSpecUptoRow : OpenClaim := { program := "ytcefbdknoelacaa", sum := "1f71a739f119962570aaf94b49311f86884aa6da231088a56444f9d007f37ff5", func := "perigee/perigeelaw7.TelemetryValuesMatchSpec", spec := "telemetryValuesMatchSpec", inPlace := ["internal/bytealg.abigen_runtime_cmpstring"], unfollowed := true, recurses := true, apart := false, narrowed := true }
def TelemetryValuesMatchSpecUptoSaid : Prop := telemetryValuesMatchSpecUptoRow.holds Try.pinned (OpenSpec.upto telemetryValuesMatchSpecSpec)

/-- 'perigeelaw7.TelemetryRawMatchesSpec', WHERE WHAT IT READS IS OF BULK AT MOST 1048576: true; the input reads as it did. -/
def telemetryRawMatchesSpecUptoRow : OpenClaim := { program := "ytcefbdknoelacaa", sum := "1f71a739f119962570aaf94b49311f86884aa6da231088a56444f9d007f37ff5", func := "perigee/perigeelaw7.TelemetryRawMatchesSpec", spec := "telemetryRawMatchesSpec", inPlace := ["internal/bytealg.abigen_runtime_cmpstring"], unfollowed := true, recurses := true, apart := false, narrowed := true }
def TelemetryRawMatchesSpecUptoSaid : Prop := telemetryRawMatchesSpecUptoRow.holds Try.pinned (OpenSpec.upto telemetryRawMatchesSpecSpec)

/-- 'perigeetop.TopCodesAreTold', WHERE WHAT IT READS IS OF BULK AT MOST 1048576: true; the input reads as it did. -/
def topCodesAreToldUptoRow : OpenClaim := { program := "ytcefbdknoelacaa", sum := "1f71a739f119962570aaf94b49311f86884aa6da231088a56444f9d007f37ff5", func := "perigee/perigeetop.TopCodesAreTold", spec := "topCodesAreTold", inPlace := ["internal/bytealg.abigen_runtime_cmpstring"], unfollowed := true, recurses := true, apart := false, narrowed := true }
def TopCodesAreToldUptoSaid : Prop := topCodesAreToldUptoRow.holds Try.pinned (OpenSpec.upto topCodesAreToldSpec)

/-- 'perigeelaw7.TelemetryRawOfValue', WHERE WHAT IT READS IS OF BULK AT MOST 1048576: true; the input reads as it did. -/
def telemetryRawOfValueUptoRow : OpenClaim := { program := "ytcefbdknoelacaa", sum := "1f71a739f119962570aaf94b49311f86884aa6da231088a56444f9d007f37ff5", func := "perigee/perigeelaw7.TelemetryRawOfValue", spec := "telemetryRawOfValue", inPlace := ["internal/bytealg.abigen_runtime_cmpstring"], unfollowed := true, recurses := true, apart := false, narrowed := true }
def TelemetryRawOfValueUptoSaid : Prop := telemetryRawOfValueUptoRow.holds Try.pinned (OpenSpec.upto telemetryRawOfValueSpec)

/-- 'perigeelaw7.TelemetryPlansMatchSpec', WHERE WHAT IT READS IS OF BULK AT MOST 1048576: true; the input reads as it did. -/
def telemetryPlansMatchSpecUptoRow : OpenClaim := { program := "ytcefbdknoelacaa", sum := "1f71a739f119962570aaf94b49311f86884aa6da231088a56444f9d007f37ff5", func := "perigee/perigeelaw7.TelemetryPlansMatchSpec", spec := "telemetryPlansMatchSpec", inPlace := ["internal/bytealg.abigen_runtime_cmpstring"], unfollowed := true, recurses := true, apart := false, narrowed := true }
def TelemetryPlansMatchSpecUptoSaid : Prop := telemetryPlansMatchSpecUptoRow.holds Try.pinned (OpenSpec.upto telemetryPlansMatchSpecSpec)

/-- 'perigeelaw7.TelemetryFilledIsEmptied', WHERE WHAT IT READS IS OF BULK AT MOST 1048576: true; the input reads as it did. -/
def telemetryFilledIsEmptiedUptoRow : OpenClaim := { program := "ytcefbdknoelacaa", sum := "1f71a739f119962570aaf94b49311f86884aa6da231088a56444f9d007f37ff5", func := "perigee/perigeelaw7.TelemetryFilledIsEmptied", spec := "telemetryFilledIsEmptied", inPlace := ["internal/bytealg.abigen_runtime_cmpstring"], unfollowed := true, recurses := true, apart := false, narrowed := true }
def TelemetryFilledIsEmptiedUptoSaid : Prop := telemetryFilledIsEmptiedUptoRow.holds Try.pinned (OpenSpec.upto telemetryFilledIsEmptiedSpec)

/-- 'perigeelaw7.TelemetrySentInParts', WHERE WHAT IT READS IS OF BULK AT MOST 1048576: true; the input reads as it did. -/
def telemetrySentInPartsUptoRow : OpenClaim := { program := "ytcefbdknoelacaa", sum := "1f71a739f119962570aaf94b49311f86884aa6da231088a56444f9d007f37ff5", func := "perigee/perigeelaw7.TelemetrySentInParts", spec := "telemetrySentInParts", inPlace := ["internal/bytealg.abigen_runtime_cmpstring"], unfollowed := true, recurses := true, apart := false, narrowed := true }
def TelemetrySentInPartsUptoSaid : Prop := telemetrySentInPartsUptoRow.holds Try.pinned (OpenSpec.upto telemetrySentInPartsSpec)

/-- 'perigeelaw7.TelemetryLayoutsMatchSpec', WHERE WHAT IT READS IS OF BULK AT MOST 1048576: true; the input reads as it did. -/
def telemetryLayoutsMatchSpecUptoRow : OpenClaim := { program := "ytcefbdknoelacaa", sum := "1f71a739f119962570aaf94b49311f86884aa6da231088a56444f9d007f37ff5", func := "perigee/perigeelaw7.TelemetryLayoutsMatchSpec", spec := "telemetryLayoutsMatchSpec", inPlace := ["internal/bytealg.abigen_runtime_cmpstring"], unfollowed := true, recurses := true, apart := false, narrowed := true }
def TelemetryLayoutsMatchSpecUptoSaid : Prop := telemetryLayoutsMatchSpecUptoRow.holds Try.pinned (OpenSpec.upto telemetryLayoutsMatchSpecSpec)

/-- 'perigeelaw7.TelemetryChangedIsNow', WHERE WHAT IT READS IS OF BULK AT MOST 1048576: true; the input reads as it did. -/
def telemetryChangedIsNowUptoRow : OpenClaim := { program := "ytcefbdknoelacaa", sum := "1f71a739f119962570aaf94b49311f86884aa6da231088a56444f9d007f37ff5", func := "perigee/perigeelaw7.TelemetryChangedIsNow", spec := "telemetryChangedIsNow", inPlace := ["internal/bytealg.abigen_runtime_cmpstring"], unfollowed := true, recurses := true, apart := false, narrowed := true }
def TelemetryChangedIsNowUptoSaid : Prop := telemetryChangedIsNowUptoRow.holds Try.pinned (OpenSpec.upto telemetryChangedIsNowSpec)

/-- 'perigeelaw7.TelemetryChangesMatchSpec', WHERE WHAT IT READS IS OF BULK AT MOST 1048576: true; the input reads as it did. -/
def telemetryChangesMatchSpecUptoRow : OpenClaim := { program := "ytcefbdknoelacaa", sum := "1f71a739f119962570aaf94b49311f86884aa6da231088a56444f9d007f37ff5", func := "perigee/perigeelaw7.TelemetryChangesMatchSpec", spec := "telemetryChangesMatchSpec", inPlace := ["internal/bytealg.abigen_runtime_cmpstring"], unfollowed := true, recurses := true, apart := false, narrowed := true }
def TelemetryChangesMatchSpecUptoSaid : Prop := telemetryChangesMatchSpecUptoRow.holds Try.pinned (OpenSpec.upto telemetryChangesMatchSpecSpec)

/-- 'perigeelaw7.TelemetryFastestKeepsTheRate', WHERE WHAT IT READS IS OF BULK AT MOST 1048576: true; the input reads as it did. -/
def telemetryFastestKeepsTheRateUptoRow : OpenClaim := { program := "ytcefbdknoelacaa", sum := "1f71a739f119962570aaf94b49311f86884aa6da231088a56444f9d007f37ff5", func := "perigee/perigeelaw7.TelemetryFastestKeepsTheRate", spec := "telemetryFastestKeepsTheRate", inPlace := ["internal/bytealg.abigen_runtime_cmpstring"], unfollowed := true, recurses := true, apart := false, narrowed := true }
def TelemetryFastestKeepsTheRateUptoSaid : Prop := telemetryFastestKeepsTheRateUptoRow.holds Try.pinned (OpenSpec.upto telemetryFastestKeepsTheRateSpec)

/-- 'perigeelaw7.TelemetryLoadIsNeverPassed', WHERE WHAT IT READS IS OF BULK AT MOST 1048576: true; the input reads as it did. -/
def telemetryLoadIsNeverPassedUptoRow : OpenClaim := { program := "ytcefbdknoelacaa", sum := "1f71a739f119962570aaf94b49311f86884aa6da231088a56444f9d007f37ff5", func := "perigee/perigeelaw7.TelemetryLoadIsNeverPassed", spec := "telemetryLoadIsNeverPassed", inPlace := ["internal/bytealg.abigen_runtime_cmpstring"], unfollowed := true, recurses := true, apart := false, narrowed := true }
def TelemetryLoadIsNeverPassedUptoSaid : Prop := telemetryLoadIsNeverPassedUptoRow.holds Try.pinned (OpenSpec.upto telemetryLoadIsNeverPassedSpec)

/-- 'perigeelaw7.TelemetryLoadMatchesSpec', WHERE WHAT IT READS IS OF BULK AT MOST 1048576: true; the input reads as it did. -/
def telemetryLoadMatchesSpecUptoRow : OpenClaim := { program := "ytcefbdknoelacaa", sum := "1f71a739f119962570aaf94b49311f86884aa6da231088a56444f9d007f37ff5", func := "perigee/perigeelaw7.TelemetryLoadMatchesSpec", spec := "telemetryLoadMatchesSpec", inPlace := ["internal/bytealg.abigen_runtime_cmpstring"], unfollowed := true, recurses := true, apart := false, narrowed := true }
def TelemetryLoadMatchesSpecUptoSaid : Prop := telemetryLoadMatchesSpecUptoRow.holds Try.pinned (OpenSpec.upto telemetryLoadMatchesSpecSpec)

end Rows
end Go.Proofs.Ytcefbdknoelacaa
