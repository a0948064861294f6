/-
  No cell of these rows narrows 'for every input' (looked for: loops, veiled, ifaces, maps, wideKeys, modest, calm, conditions, laid).
  DERIVED. THE GIVEN ROWS OF THIS SEAT. 8 by the template 'for every input the law returns true; each argument reads behind the call as it read before'; 0 by the template 'total and deterministic' (their statements: YtodnfnnfjnnhmaaTotals.lean).
  GIVEN WITH THE SEED: the statements are not yours to turn. If you find one false, say at which input.
  Laid BY PROGRAM, IN A SANDBOX (cutbox-rows.mjs): the forced cells as the released guide's own fill.sh prints them over the translation c34b021cbd978483… (all of the seat's roots in one cut). By AI agents, Wed Nov 11 2026. No macro, syntax, notation, axiom, sorry.
-/
import Derived.Test.YtodnfnnfjnnhmaaChecked
import GoSem.Claim
import GoSem.ClaimJoined
import GoSem.ClaimMapViews
import Derived.JoinedTies
import Derived.KernelRfl
namespace Go.Proofs.Ytodnfnnfjnnhmaa
/- THE CELL 'sum', in the pinned program and in every row, IS THE sha256 OF THE DUMP (.gsa) THAT YtodnfnnfjnnhmaaProg.lean LOADS. Nothing in Lean hashes anything: it is a label: what it is worth is what the hold of that sum in a sandbox is worth. -/
noncomputable def Try.pinned : Pinned := { name := "ytodnfnnfjnnhmaa", sum := "c34b021cbd9784830eb48cd268ac7b2d352a43f28399cd97d04cf54dbd6682ce", checked := Try.checked }
namespace Rows
def none {H : Type} : Left H := { results := [], args := [] }

/-- 'perigeelaw8.LimitsMatchSpec': WHATEVER THE INPUT: true; the input reads as it did. -/
def limitsMatchSpecSpec : ChangeSpec := { name := "limitsMatchSpec", fn := fun _ => fun
  | [d1, d2, d3, d4] => { results := [.lit (.bool true)], args := [d1, d2, d3, d4] }
  | _ => none }
def limitsMatchSpecRow : OpenClaim := { program := "ytodnfnnfjnnhmaa", sum := "c34b021cbd9784830eb48cd268ac7b2d352a43f28399cd97d04cf54dbd6682ce", func := "perigee/perigeelaw8.LimitsMatchSpec", spec := "limitsMatchSpec", apart := false }
def LimitsMatchSpecSaid : Prop := limitsMatchSpecRow.holds Try.pinned (OpenSpec.ofChange limitsMatchSpecSpec)

/-- ITS FALSE NEIGHBOUR: 'it returns false'. Refute it at one input. -/
def limitsMatchSpecWrong : ChangeSpec := { name := "limitsMatchSpec", fn := fun _ => fun
  | [d1, d2, d3, d4] => { results := [.lit (.bool false)], args := [d1, d2, d3, d4] }
  | _ => none }
def LimitsMatchSpecWrongFalsely : Prop := limitsMatchSpecRow.holds Try.pinned (OpenSpec.ofChange limitsMatchSpecWrong)

/-- 'perigeelaw8.LimitsPlainFollowValues': WHATEVER THE INPUT: true; the input reads as it did. -/
def limitsPlainFollowValuesSpec : ChangeSpec := { name := "limitsPlainFollowValues", fn := fun _ => fun
  | [d1, d2] => { results := [.lit (.bool true)], args := [d1, d2] }
  | _ => none }
def limitsPlainFollowValuesRow : OpenClaim := { program := "ytodnfnnfjnnhmaa", sum := "c34b021cbd9784830eb48cd268ac7b2d352a43f28399cd97d04cf54dbd6682ce", func := "perigee/perigeelaw8.LimitsPlainFollowValues", spec := "limitsPlainFollowValues", apart := false }
def LimitsPlainFollowValuesSaid : Prop := limitsPlainFollowValuesRow.holds Try.pinned (OpenSpec.ofChange limitsPlainFollowValuesSpec)

/-- ITS FALSE NEIGHBOUR: 'it returns false'. Refute it at one input. -/
def limitsPlainFollowValuesWrong : ChangeSpec := { name := "limitsPlainFollowValues", fn := fun _ => fun
  | [d1, d2] => { results := [.lit (.bool false)], args := [d1, d2] }
  | _ => none }
def LimitsPlainFollowValuesWrongFalsely : Prop := limitsPlainFollowValuesRow.holds Try.pinned (OpenSpec.ofChange limitsPlainFollowValuesWrong)

/-- 'perigeelaw8.LimitsNeedCount': WHATEVER THE INPUT: true; the input reads as it did. -/
def limitsNeedCountSpec : ChangeSpec := { name := "limitsNeedCount", fn := fun _ => fun
  | [d1, d2] => { results := [.lit (.bool true)], args := [d1, d2] }
  | _ => none }
def limitsNeedCountRow : OpenClaim := { program := "ytodnfnnfjnnhmaa", sum := "c34b021cbd9784830eb48cd268ac7b2d352a43f28399cd97d04cf54dbd6682ce", func := "perigee/perigeelaw8.LimitsNeedCount", spec := "limitsNeedCount", apart := false }
def LimitsNeedCountSaid : Prop := limitsNeedCountRow.holds Try.pinned (OpenSpec.ofChange limitsNeedCountSpec)

/-- ITS FALSE NEIGHBOUR: 'it returns false'. Refute it at one input. -/
def limitsNeedCountWrong : ChangeSpec := { name := "limitsNeedCount", fn := fun _ => fun
  | [d1, d2] => { results := [.lit (.bool false)], args := [d1, d2] }
  | _ => none }
def LimitsNeedCountWrongFalsely : Prop := limitsNeedCountRow.holds Try.pinned (OpenSpec.ofChange limitsNeedCountWrong)

/-- 'perigeelaw8.LimitsOthersDoNotMatter': WHATEVER THE INPUT: true; the input reads as it did. -/
def limitsOthersDoNotMatterSpec : ChangeSpec := { name := "limitsOthersDoNotMatter", fn := fun _ => fun
  | [d1, d2] => { results := [.lit (.bool true)], args := [d1, d2] }
  | _ => none }
def limitsOthersDoNotMatterRow : OpenClaim := { program := "ytodnfnnfjnnhmaa", sum := "c34b021cbd9784830eb48cd268ac7b2d352a43f28399cd97d04cf54dbd6682ce", func := "perigee/perigeelaw8.LimitsOthersDoNotMatter", spec := "limitsOthersDoNotMatter", apart := false }
def LimitsOthersDoNotMatterSaid : Prop := limitsOthersDoNotMatterRow.holds Try.pinned (OpenSpec.ofChange limitsOthersDoNotMatterSpec)

/-- ITS FALSE NEIGHBOUR: 'it returns false'. Refute it at one input. -/
def limitsOthersDoNotMatterWrong : ChangeSpec := { name := "limitsOthersDoNotMatter", fn := fun _ => fun
  | [d1, d2] => { results := [.lit (.bool false)], args := [d1, d2] }
  | _ => none }
def LimitsOthersDoNotMatterWrongFalsely : Prop := limitsOthersDoNotMatterRow.holds Try.pinned (OpenSpec.ofChange limitsOthersDoNotMatterWrong)

/-- 'perigeelaw8.LimitsEventsAlternate': WHATEVER THE INPUT: true; the input reads as it did. -/
def limitsEventsAlternateSpec : ChangeSpec := { name := "limitsEventsAlternate", fn := fun _ => fun
  | [d1, d2] => { results := [.lit (.bool true)], args := [d1, d2] }
  | _ => none }
def limitsEventsAlternateRow : OpenClaim := { program := "ytodnfnnfjnnhmaa", sum := "c34b021cbd9784830eb48cd268ac7b2d352a43f28399cd97d04cf54dbd6682ce", func := "perigee/perigeelaw8.LimitsEventsAlternate", spec := "limitsEventsAlternate", apart := false }
def LimitsEventsAlternateSaid : Prop := limitsEventsAlternateRow.holds Try.pinned (OpenSpec.ofChange limitsEventsAlternateSpec)

/-- ITS FALSE NEIGHBOUR: 'it returns false'. Refute it at one input. -/
def limitsEventsAlternateWrong : ChangeSpec := { name := "limitsEventsAlternate", fn := fun _ => fun
  | [d1, d2] => { results := [.lit (.bool false)], args := [d1, d2] }
  | _ => none }
def LimitsEventsAlternateWrongFalsely : Prop := limitsEventsAlternateRow.holds Try.pinned (OpenSpec.ofChange limitsEventsAlternateWrong)

/-- 'perigeetop.TopCraftTellsItsAlarms': WHATEVER THE INPUT: true; the input reads as it did. -/
def topCraftTellsItsAlarmsSpec : ChangeSpec := { name := "topCraftTellsItsAlarms", fn := fun _ => fun
  | [d1, d2, d3] => { results := [.lit (.bool true)], args := [d1, d2, d3] }
  | _ => none }
def topCraftTellsItsAlarmsRow : OpenClaim := { program := "ytodnfnnfjnnhmaa", sum := "c34b021cbd9784830eb48cd268ac7b2d352a43f28399cd97d04cf54dbd6682ce", func := "perigee/perigeetop.TopCraftTellsItsAlarms", spec := "topCraftTellsItsAlarms", apart := false }
def TopCraftTellsItsAlarmsSaid : Prop := topCraftTellsItsAlarmsRow.holds Try.pinned (OpenSpec.ofChange topCraftTellsItsAlarmsSpec)

/-- ITS FALSE NEIGHBOUR: 'it returns false'. Refute it at one input. -/
def topCraftTellsItsAlarmsWrong : ChangeSpec := { name := "topCraftTellsItsAlarms", fn := fun _ => fun
  | [d1, d2, d3] => { results := [.lit (.bool false)], args := [d1, d2, d3] }
  | _ => none }
def TopCraftTellsItsAlarmsWrongFalsely : Prop := topCraftTellsItsAlarmsRow.holds Try.pinned (OpenSpec.ofChange topCraftTellsItsAlarmsWrong)

/-- 'perigeelaw8.LimitsFollowMatchSpec': WHATEVER THE INPUT: true; the input reads as it did. -/
def limitsFollowMatchSpecSpec : ChangeSpec := { name := "limitsFollowMatchSpec", fn := fun _ => fun
  | [d1, d2, d3, d4] => { results := [.lit (.bool true)], args := [d1, d2, d3, d4] }
  | _ => none }
def limitsFollowMatchSpecRow : OpenClaim := { program := "ytodnfnnfjnnhmaa", sum := "c34b021cbd9784830eb48cd268ac7b2d352a43f28399cd97d04cf54dbd6682ce", func := "perigee/perigeelaw8.LimitsFollowMatchSpec", spec := "limitsFollowMatchSpec", apart := false }
def LimitsFollowMatchSpecSaid : Prop := limitsFollowMatchSpecRow.holds Try.pinned (OpenSpec.ofChange limitsFollowMatchSpecSpec)

/-- ITS FALSE NEIGHBOUR: 'it returns false'. Refute it at one input. -/
def limitsFollowMatchSpecWrong : ChangeSpec := { name := "limitsFollowMatchSpec", fn := fun _ => fun
  | [d1, d2, d3, d4] => { results := [.lit (.bool false)], args := [d1, d2, d3, d4] }
  | _ => none }
def LimitsFollowMatchSpecWrongFalsely : Prop := limitsFollowMatchSpecRow.holds Try.pinned (OpenSpec.ofChange limitsFollowMatchSpecWrong)

/-- 'perigeetop.TopLevelsAreWatched': WHATEVER THE INPUT: true; the input reads as it did. -/
def topLevelsAreWatchedSpec : ChangeSpec := { name := "topLevelsAreWatched", fn := fun _ => fun
  | [d1, d2, d3, d4, d5] => { results := [.lit (.bool true)], args := [d1, d2, d3, d4, d5] }
  | _ => none }
def topLevelsAreWatchedRow : OpenClaim := { program := "ytodnfnnfjnnhmaa", sum := "c34b021cbd9784830eb48cd268ac7b2d352a43f28399cd97d04cf54dbd6682ce", func := "perigee/perigeetop.TopLevelsAreWatched", spec := "topLevelsAreWatched", inPlace := ["internal/bytealg.abigen_runtime_cmpstring"], unfollowed := true, recurses := true, apart := false }
def TopLevelsAreWatchedSaid : Prop := topLevelsAreWatchedRow.holds Try.pinned (OpenSpec.ofChange topLevelsAreWatchedSpec)

/-- ITS FALSE NEIGHBOUR: 'it returns false'. Refute it at one input. -/
def topLevelsAreWatchedWrong : ChangeSpec := { name := "topLevelsAreWatched", fn := fun _ => fun
  | [d1, d2, d3, d4, d5] => { results := [.lit (.bool false)], args := [d1, d2, d3, d4, d5] }
  | _ => none }
def TopLevelsAreWatchedWrongFalsely : Prop := topLevelsAreWatchedRow.holds Try.pinned (OpenSpec.ofChange topLevelsAreWatchedWrong)

/- THE SECOND FORM. 'bulk': how many values and letters a reading holds, each counted each time it is reached (what is shared counts as often as it is met; a slice's spare places count too). A statement '..UptoSaid' is the law's where the arguments, and the package variables that the reading takes, are together of bulk at most 1048576: NARROWER than '..Said'. Prove '..Said' where nothing that the law and all that it calls make is longer than what came in: it says more and counts as full. Else prove '..UptoSaid'. A law counts once. -/
mutual
def uptoBulk {H : Type} : DataW H → Nat
  | .lit (.string bytes) => bytes.length + 1
  | .lit _ => 1
  | .nil => 1
  | .ptr d => uptoBulk d + 1
  | .slice elems spare => uptoBulkAll elems + uptoBulkAll spare + 1
  | .agg parts => uptoBulkAll parts + 1
  | .iface _ d => uptoBulk d + 1
  | .map entries => uptoBulkEntries entries + 1
  | .held _ => 1
def uptoBulkAll {H : Type} : List (DataW H) → Nat
  | [] => 0
  | d :: r => uptoBulk d + uptoBulkAll r
def uptoBulkEntries {H : Type} : List (Lit × DataW H) → Nat
  | [] => 0
  | x :: r => uptoBulkEntry x + uptoBulkEntries r
def uptoBulkEntry {H : Type} : Lit × DataW H → Nat
  | (.string bytes, d) => bytes.length + uptoBulk d + 1
  | (_, d) => uptoBulk d + 1
 end
def uptoSmall : (H : Type) → List (DataW H) → Bool := fun _ ds => decide (uptoBulkAll ds ≤ 1048576)
def OpenSpec.upto (s : _root_.Go.ChangeSpec) : _root_.Go.OpenSpec := { _root_.Go.OpenSpec.ofChange s with cond := some uptoSmall }

/-- 'perigeelaw8.LimitsMatchSpec', WHERE WHAT IT READS IS OF BULK AT MOST 1048576: true; the input reads as it did. -/
def limitsMatchSpecUptoRow : OpenClaim := { program := "ytodnfnnfjnnhmaa", sum := "c34b021cbd9784830eb48cd268ac7b2d352a43f28399cd97d04cf54dbd6682ce", func := "perigee/perigeelaw8.LimitsMatchSpec", spec := "limitsMatchSpec", apart := false, narrowed := true }
def LimitsMatchSpecUptoSaid : Prop := limitsMatchSpecUptoRow.holds Try.pinned (OpenSpec.upto limitsMatchSpecSpec)

/-- 'perigeelaw8.LimitsPlainFollowValues', WHERE WHAT IT READS IS OF BULK AT MOST 1048576: true; the input reads as it did. -/
def limitsPlainFollowValuesUptoRow : OpenClaim := { program := "ytodnfnnfjnnhmaa", sum := "c34b021cbd9784830eb48cd268ac7b2d352a43f28399cd97d04cf54dbd6682ce", func := "perigee/perigeelaw8.LimitsPlainFollowValues", spec := "limitsPlainFollowValues", apart := false, narrowed := true }
def LimitsPlainFollowValuesUptoSaid : Prop := limitsPlainFollowValuesUptoRow.holds Try.pinned (OpenSpec.upto limitsPlainFollowValuesSpec)

/-- 'perigeelaw8.LimitsNeedCount', WHERE WHAT IT READS IS OF BULK AT MOST 1048576: true; the input reads as it did. -/
def limitsNeedCountUptoRow : OpenClaim := { program := "ytodnfnnfjnnhmaa", sum := "c34b021cbd9784830eb48cd268ac7b2d352a43f28399cd97d04cf54dbd6682ce", func := "perigee/perigeelaw8.LimitsNeedCount", spec := "limitsNeedCount", apart := false, narrowed := true }
def LimitsNeedCountUptoSaid : Prop := limitsNeedCountUptoRow.holds Try.pinned (OpenSpec.upto limitsNeedCountSpec)

/-- 'perigeelaw8.LimitsOthersDoNotMatter', WHERE WHAT IT READS IS OF BULK AT MOST 1048576: true; the input reads as it did. -/
def limitsOthersDoNotMatterUptoRow : OpenClaim := { program := "ytodnfnnfjnnhmaa", sum := "c34b021cbd9784830eb48cd268ac7b2d352a43f28399cd97d04cf54dbd6682ce", func := "perigee/perigeelaw8.LimitsOthersDoNotMatter", spec := "limitsOthersDoNotMatter", apart := false, narrowed := true }
def LimitsOthersDoNotMatterUptoSaid : Prop := limitsOthersDoNotMatterUptoRow.holds Try.pinned (OpenSpec.upto limitsOthersDoNotMatterSpec)

/-- 'perigeelaw8.LimitsEventsAlternate', WHERE WHAT IT READS IS OF BULK AT MOST 1048576: true; the input reads as it did. -/
def limitsEventsAlternateUptoRow : OpenClaim := { program := "ytodnfnnfjnnhmaa", sum := "c34b021cbd9784830eb48cd268ac7b2d352a43f28399cd97d04cf54dbd6682ce", func := "perigee/perigeelaw8.LimitsEventsAlternate", spec := "limitsEventsAlternate", apart := false, narrowed := true }
def LimitsEventsAlternateUptoSaid : Prop := limitsEventsAlternateUptoRow.holds Try.pinned (OpenSpec.upto limitsEventsAlternateSpec)

/-- 'perigeetop.TopCraftTellsItsAlarms', WHERE WHAT IT READS IS OF BULK AT MOST 1048576: true; the input reads as it did. -/
def topCraftTellsItsAlarmsUptoRow : OpenClaim := { program := "ytodnfnnfjnnhmaa", sum := "c34b021cbd9784830eb48cd268ac7b2d352a43f28399cd97d04cf54dbd6682ce", func := "perigee/perigeetop.TopCraftTellsItsAlarms", spec := "topCraftTellsItsAlarms", apart := false, narrowed := true }
def TopCraftTellsItsAlarmsUptoSaid : Prop := topCraftTellsItsAlarmsUptoRow.holds Try.pinned (OpenSpec.upto topCraftTellsItsAlarmsSpec)

/-- 'perigeelaw8.LimitsFollowMatchSpec', WHERE WHAT IT READS IS OF BULK AT MOST 1048576: true; the input reads as it did. -/
def limitsFollowMatchSpecUptoRow : OpenClaim := { program := "ytodnfnnfjnnhmaa", sum := "c34b021cbd9784830eb48cd268ac7b2d352a43f28399cd97d04cf54dbd6682ce", func := "perigee/perigeelaw8.LimitsFollowMatchSpec", spec := "limitsFollowMatchSpec", apart := false, narrowed := true }
def LimitsFollowMatchSpecUptoSaid : Prop := limitsFollowMatchSpecUptoRow.holds Try.pinned (OpenSpec.upto limitsFollowMatchSpecSpec)

/-- 'perigeetop.TopLevelsAreWatched', WHERE WHAT IT READS IS OF BULK AT MOST 1048576: true; the input reads as it did. -/
def topLevelsAreWatchedUptoRow : OpenClaim := { program := "ytodnfnnfjnnhmaa", sum := "c34b021cbd9784830eb48cd268ac7b2d352a43f28399cd97d04cf54dbd6682ce", func := "perigee/perigeetop.TopLevelsAreWatched", spec := "topLevelsAreWatched", inPlace := ["internal/bytealg.abigen_runtime_cmpstring"], unfollowed := true, recurses := true, apart := false, narrowed := true }
def TopLevelsAreWatchedUptoSaid : Prop := topLevelsAreWatchedUptoRow.holds Try.pinned (OpenSpec.upto topLevelsAreWatchedSpec)

end Rows
end Go.Proofs.Ytodnfnnfjnnhmaa
