/-
  No cell of these rows narrows 'for every input' (looked for: loops, veiled, ifaces, maps, wideKeys, modest, calm, conditions, laid).
  DERIVED. THE GIVEN ROWS OF THIS SEAT. 10 by the template 'for every input the law returns true; each argument reads behind the call as it read before'; 0 by the template 'total and deterministic' (their statements: YtadhpgecilhgnaaTotals.lean).
  GIVEN WITH THE SEED: the statements are not yours to turn. If you find one false, say at which input.
  Laid BY PROGRAM, IN A SANDBOX (cutbox-rows.mjs): the forced cells as the released guide's own fill.sh prints them over the translation 2777d96a7a4c6fb1… (all of the seat's roots in one cut). By AI agents, Wed Nov 11 2026. No macro, syntax, notation, axiom, sorry.
-/
import Derived.Test.YtadhpgecilhgnaaChecked
import GoSem.Claim
import GoSem.ClaimJoined
import GoSem.ClaimMapViews
import Derived.JoinedTies
import Derived.KernelRfl
namespace Go.Proofs.Ytadhpgecilhgnaa
/- THE CELL 'sum', in the pinned program and in every row, IS THE sha256 OF THE DUMP (.gsa) THAT YtadhpgecilhgnaaProg.lean LOADS. Nothing in Lean hashes anything: it is a label: what it is worth is what the hold of that sum in a sandbox is worth. -/
noncomputable def Try.pinned : Pinned := { name := "ytadhpgecilhgnaa", sum := "2777d96a7a4c6fb1d682c241bd6363a9c759e04cbd0f2bb36908c67bcf54b449", checked := Try.checked }
namespace Rows
def none {H : Type} : Left H := { results := [], args := [] }

/-- 'perigeelaw8.WatchesLoopsAreRings': WHATEVER THE INPUT: true; the input reads as it did. -/
def watchesLoopsAreRingsSpec : ChangeSpec := { name := "watchesLoopsAreRings", fn := fun _ => fun
  | [d] => { results := [.lit (.bool true)], args := [d] }
  | _ => none }
def watchesLoopsAreRingsRow : OpenClaim := { program := "ytadhpgecilhgnaa", sum := "2777d96a7a4c6fb1d682c241bd6363a9c759e04cbd0f2bb36908c67bcf54b449", func := "perigee/perigeelaw8.WatchesLoopsAreRings", spec := "watchesLoopsAreRings", plainKeys := false, apart := false }
def WatchesLoopsAreRingsSaid : Prop := watchesLoopsAreRingsRow.holds Try.pinned (OpenSpec.ofChange watchesLoopsAreRingsSpec)

/-- ITS FALSE NEIGHBOUR: 'it returns false'. Refute it at one input. -/
def watchesLoopsAreRingsWrong : ChangeSpec := { name := "watchesLoopsAreRings", fn := fun _ => fun
  | [d] => { results := [.lit (.bool false)], args := [d] }
  | _ => none }
def WatchesLoopsAreRingsWrongFalsely : Prop := watchesLoopsAreRingsRow.holds Try.pinned (OpenSpec.ofChange watchesLoopsAreRingsWrong)

/-- 'perigeelaw8.WatchesMatchSpec': WHATEVER THE INPUT: true; the input reads as it did. -/
def watchesMatchSpecSpec : ChangeSpec := { name := "watchesMatchSpec", fn := fun _ => fun
  | [d1, d2] => { results := [.lit (.bool true)], args := [d1, d2] }
  | _ => none }
def watchesMatchSpecRow : OpenClaim := { program := "ytadhpgecilhgnaa", sum := "2777d96a7a4c6fb1d682c241bd6363a9c759e04cbd0f2bb36908c67bcf54b449", func := "perigee/perigeelaw8.WatchesMatchSpec", spec := "watchesMatchSpec", plainKeys := false, apart := false }
def WatchesMatchSpecSaid : Prop := watchesMatchSpecRow.holds Try.pinned (OpenSpec.ofChange watchesMatchSpecSpec)

/-- ITS FALSE NEIGHBOUR: 'it returns false'. Refute it at one input. -/
def watchesMatchSpecWrong : ChangeSpec := { name := "watchesMatchSpec", fn := fun _ => fun
  | [d1, d2] => { results := [.lit (.bool false)], args := [d1, d2] }
  | _ => none }
def WatchesMatchSpecWrongFalsely : Prop := watchesMatchSpecRow.holds Try.pinned (OpenSpec.ofChange watchesMatchSpecWrong)

/-- 'perigeelaw8.WatchesPlayInParts': WHATEVER THE INPUT: true; the input reads as it did. -/
def watchesPlayInPartsSpec : ChangeSpec := { name := "watchesPlayInParts", fn := fun _ => fun
  | [d1, d2, d3] => { results := [.lit (.bool true)], args := [d1, d2, d3] }
  | _ => none }
def watchesPlayInPartsRow : OpenClaim := { program := "ytadhpgecilhgnaa", sum := "2777d96a7a4c6fb1d682c241bd6363a9c759e04cbd0f2bb36908c67bcf54b449", func := "perigee/perigeelaw8.WatchesPlayInParts", spec := "watchesPlayInParts", plainKeys := false, apart := false }
def WatchesPlayInPartsSaid : Prop := watchesPlayInPartsRow.holds Try.pinned (OpenSpec.ofChange watchesPlayInPartsSpec)

/-- ITS FALSE NEIGHBOUR: 'it returns false'. Refute it at one input. -/
def watchesPlayInPartsWrong : ChangeSpec := { name := "watchesPlayInParts", fn := fun _ => fun
  | [d1, d2, d3] => { results := [.lit (.bool false)], args := [d1, d2, d3] }
  | _ => none }
def WatchesPlayInPartsWrongFalsely : Prop := watchesPlayInPartsRow.holds Try.pinned (OpenSpec.ofChange watchesPlayInPartsWrong)

/-- 'perigeelaw8.WatchesLoopsMatchSpec': WHATEVER THE INPUT: true; the input reads as it did. -/
def watchesLoopsMatchSpecSpec : ChangeSpec := { name := "watchesLoopsMatchSpec", fn := fun _ => fun
  | [d1, d2] => { results := [.lit (.bool true)], args := [d1, d2] }
  | _ => none }
def watchesLoopsMatchSpecRow : OpenClaim := { program := "ytadhpgecilhgnaa", sum := "2777d96a7a4c6fb1d682c241bd6363a9c759e04cbd0f2bb36908c67bcf54b449", func := "perigee/perigeelaw8.WatchesLoopsMatchSpec", spec := "watchesLoopsMatchSpec", plainKeys := false, apart := false }
def WatchesLoopsMatchSpecSaid : Prop := watchesLoopsMatchSpecRow.holds Try.pinned (OpenSpec.ofChange watchesLoopsMatchSpecSpec)

/-- ITS FALSE NEIGHBOUR: 'it returns false'. Refute it at one input. -/
def watchesLoopsMatchSpecWrong : ChangeSpec := { name := "watchesLoopsMatchSpec", fn := fun _ => fun
  | [d1, d2] => { results := [.lit (.bool false)], args := [d1, d2] }
  | _ => none }
def WatchesLoopsMatchSpecWrongFalsely : Prop := watchesLoopsMatchSpecRow.holds Try.pinned (OpenSpec.ofChange watchesLoopsMatchSpecWrong)

/-- 'perigeelaw8.WatchesModesAreReached': WHATEVER THE INPUT: true; the input reads as it did. -/
def watchesModesAreReachedSpec : ChangeSpec := { name := "watchesModesAreReached", fn := fun _ => fun
  | [d1, d2] => { results := [.lit (.bool true)], args := [d1, d2] }
  | _ => none }
def watchesModesAreReachedRow : OpenClaim := { program := "ytadhpgecilhgnaa", sum := "2777d96a7a4c6fb1d682c241bd6363a9c759e04cbd0f2bb36908c67bcf54b449", func := "perigee/perigeelaw8.WatchesModesAreReached", spec := "watchesModesAreReached", plainKeys := false, apart := false }
def WatchesModesAreReachedSaid : Prop := watchesModesAreReachedRow.holds Try.pinned (OpenSpec.ofChange watchesModesAreReachedSpec)

/-- ITS FALSE NEIGHBOUR: 'it returns false'. Refute it at one input. -/
def watchesModesAreReachedWrong : ChangeSpec := { name := "watchesModesAreReached", fn := fun _ => fun
  | [d1, d2] => { results := [.lit (.bool false)], args := [d1, d2] }
  | _ => none }
def WatchesModesAreReachedWrongFalsely : Prop := watchesModesAreReachedRow.holds Try.pinned (OpenSpec.ofChange watchesModesAreReachedWrong)

/-- 'perigeelaw8.WatchesNeverFire': WHATEVER THE INPUT: true; the input reads as it did. -/
def watchesNeverFireSpec : ChangeSpec := { name := "watchesNeverFire", fn := fun _ => fun
  | [d1, d2] => { results := [.lit (.bool true)], args := [d1, d2] }
  | _ => none }
def watchesNeverFireRow : OpenClaim := { program := "ytadhpgecilhgnaa", sum := "2777d96a7a4c6fb1d682c241bd6363a9c759e04cbd0f2bb36908c67bcf54b449", func := "perigee/perigeelaw8.WatchesNeverFire", spec := "watchesNeverFire", inPlace := ["slices.overlaps[string]"], plainKeys := false, apart := false }
def WatchesNeverFireSaid : Prop := watchesNeverFireRow.holds Try.pinned (OpenSpec.ofChange watchesNeverFireSpec)

/-- ITS FALSE NEIGHBOUR: 'it returns false'. Refute it at one input. -/
def watchesNeverFireWrong : ChangeSpec := { name := "watchesNeverFire", fn := fun _ => fun
  | [d1, d2] => { results := [.lit (.bool false)], args := [d1, d2] }
  | _ => none }
def WatchesNeverFireWrongFalsely : Prop := watchesNeverFireRow.holds Try.pinned (OpenSpec.ofChange watchesNeverFireWrong)

/-- 'perigeelaw8.WatchesWaysAreShortest': WHATEVER THE INPUT: true; the input reads as it did. -/
def watchesWaysAreShortestSpec : ChangeSpec := { name := "watchesWaysAreShortest", fn := fun _ => fun
  | [d1, d2, d3, d4] => { results := [.lit (.bool true)], args := [d1, d2, d3, d4] }
  | _ => none }
def watchesWaysAreShortestRow : OpenClaim := { program := "ytadhpgecilhgnaa", sum := "2777d96a7a4c6fb1d682c241bd6363a9c759e04cbd0f2bb36908c67bcf54b449", func := "perigee/perigeelaw8.WatchesWaysAreShortest", spec := "watchesWaysAreShortest", recurses := true, plainKeys := false, apart := false }
def WatchesWaysAreShortestSaid : Prop := watchesWaysAreShortestRow.holds Try.pinned (OpenSpec.ofChange watchesWaysAreShortestSpec)

/-- ITS FALSE NEIGHBOUR: 'it returns false'. Refute it at one input. -/
def watchesWaysAreShortestWrong : ChangeSpec := { name := "watchesWaysAreShortest", fn := fun _ => fun
  | [d1, d2, d3, d4] => { results := [.lit (.bool false)], args := [d1, d2, d3, d4] }
  | _ => none }
def WatchesWaysAreShortestWrongFalsely : Prop := watchesWaysAreShortestRow.holds Try.pinned (OpenSpec.ofChange watchesWaysAreShortestWrong)

/-- 'perigeelaw8.WatchesWaysLeadThere': WHATEVER THE INPUT: true; the input reads as it did. -/
def watchesWaysLeadThereSpec : ChangeSpec := { name := "watchesWaysLeadThere", fn := fun _ => fun
  | [d1, d2, d3] => { results := [.lit (.bool true)], args := [d1, d2, d3] }
  | _ => none }
def watchesWaysLeadThereRow : OpenClaim := { program := "ytadhpgecilhgnaa", sum := "2777d96a7a4c6fb1d682c241bd6363a9c759e04cbd0f2bb36908c67bcf54b449", func := "perigee/perigeelaw8.WatchesWaysLeadThere", spec := "watchesWaysLeadThere", recurses := true, plainKeys := false, apart := false }
def WatchesWaysLeadThereSaid : Prop := watchesWaysLeadThereRow.holds Try.pinned (OpenSpec.ofChange watchesWaysLeadThereSpec)

/-- ITS FALSE NEIGHBOUR: 'it returns false'. Refute it at one input. -/
def watchesWaysLeadThereWrong : ChangeSpec := { name := "watchesWaysLeadThere", fn := fun _ => fun
  | [d1, d2, d3] => { results := [.lit (.bool false)], args := [d1, d2, d3] }
  | _ => none }
def WatchesWaysLeadThereWrongFalsely : Prop := watchesWaysLeadThereRow.holds Try.pinned (OpenSpec.ofChange watchesWaysLeadThereWrong)

/-- 'perigeelaw8.WatchesStateMatchSpec': WHATEVER THE INPUT: true; the input reads as it did. -/
def watchesStateMatchSpecSpec : ChangeSpec := { name := "watchesStateMatchSpec", fn := fun _ => fun
  | [d1, d2, d3] => { results := [.lit (.bool true)], args := [d1, d2, d3] }
  | _ => none }
def watchesStateMatchSpecRow : OpenClaim := { program := "ytadhpgecilhgnaa", sum := "2777d96a7a4c6fb1d682c241bd6363a9c759e04cbd0f2bb36908c67bcf54b449", func := "perigee/perigeelaw8.WatchesStateMatchSpec", spec := "watchesStateMatchSpec", recurses := true, plainKeys := false, apart := false }
def WatchesStateMatchSpecSaid : Prop := watchesStateMatchSpecRow.holds Try.pinned (OpenSpec.ofChange watchesStateMatchSpecSpec)

/-- ITS FALSE NEIGHBOUR: 'it returns false'. Refute it at one input. -/
def watchesStateMatchSpecWrong : ChangeSpec := { name := "watchesStateMatchSpec", fn := fun _ => fun
  | [d1, d2, d3] => { results := [.lit (.bool false)], args := [d1, d2, d3] }
  | _ => none }
def WatchesStateMatchSpecWrongFalsely : Prop := watchesStateMatchSpecRow.holds Try.pinned (OpenSpec.ofChange watchesStateMatchSpecWrong)

/-- 'perigeelaw8.WatchesFindMatchSpec': WHATEVER THE INPUT: true; the input reads as it did. -/
def watchesFindMatchSpecSpec : ChangeSpec := { name := "watchesFindMatchSpec", fn := fun _ => fun
  | [d1, d2, d3] => { results := [.lit (.bool true)], args := [d1, d2, d3] }
  | _ => none }
def watchesFindMatchSpecRow : OpenClaim := { program := "ytadhpgecilhgnaa", sum := "2777d96a7a4c6fb1d682c241bd6363a9c759e04cbd0f2bb36908c67bcf54b449", func := "perigee/perigeelaw8.WatchesFindMatchSpec", spec := "watchesFindMatchSpec", recurses := true, plainKeys := false, apart := false }
def WatchesFindMatchSpecSaid : Prop := watchesFindMatchSpecRow.holds Try.pinned (OpenSpec.ofChange watchesFindMatchSpecSpec)

/-- ITS FALSE NEIGHBOUR: 'it returns false'. Refute it at one input. -/
def watchesFindMatchSpecWrong : ChangeSpec := { name := "watchesFindMatchSpec", fn := fun _ => fun
  | [d1, d2, d3] => { results := [.lit (.bool false)], args := [d1, d2, d3] }
  | _ => none }
def WatchesFindMatchSpecWrongFalsely : Prop := watchesFindMatchSpecRow.holds Try.pinned (OpenSpec.ofChange watchesFindMatchSpecWrong)

/- THE SECOND FORM. 'bulk': how many values and letters a reading holds, each counted each time it is reached (what is shared counts as often as it is met; a slice's spare places count too). A statement '..UptoSaid' is the law's where the arguments, and the package variables that the reading takes, are together of bulk at most 1048576: NARROWER than '..Said'. Prove '..Said' where nothing that the law and all that it calls make is longer than what came in: it says more and counts as full. Else prove '..UptoSaid'. A law counts once. -/
mutual
def uptoBulk {H : Type} : DataW H → Nat
  | .lit (.string bytes) => bytes.length + 1
  | .lit _ => 1
  | .nil => 1
  | .ptr d => uptoBulk d + 1
  | .slice elems spare => uptoBulkAll elems + uptoBulkAll spare + 1
  | .agg parts => uptoBulkAll parts + 1
  | .iface _ d => uptoBulk d + 1
  | .map entries => uptoBulkEntries entries + 1
  | .held _ => 1
def uptoBulkAll {H : Type} : List (DataW H) → Nat
  | [] => 0
  | d :: r => uptoBulk d + uptoBulkAll r
def uptoBulkEntries {H : Type} : List (Lit × DataW H) → Nat
  | [] => 0
  | x :: r => uptoBulkEntry x + uptoBulkEntries r
def uptoBulkEntry {H : Type} : Lit × DataW H → Nat
  | (.string bytes, d) => bytes.length + uptoBulk d + 1
  | (_, d) => uptoBulk d + 1
 end
def uptoSmall : (H : Type) → List (DataW H) → Bool := fun _ ds => decide (uptoBulkAll ds ≤ 1048576)
def OpenSpec.upto (s : _root_.Go.ChangeSpec) : _root_.Go.OpenSpec := { _root_.Go.OpenSpec.ofChange s with cond := some uptoSmall }

/-- 'perigeelaw8.WatchesLoopsAreRings', WHERE WHAT IT READS IS OF BULK AT MOST 1048576: true; the input reads as it did. -/
def watchesLoopsAreRingsUptoRow : OpenClaim := { program := "ytadhpgecilhgnaa", sum := "2777d96a7a4c6fb1d682c241bd6363a9c759e04cbd0f2bb36908c67bcf54b449", func := "perigee/perigeelaw8.WatchesLoopsAreRings", spec := "watchesLoopsAreRings", plainKeys := false, apart := false, narrowed := true }
def WatchesLoopsAreRingsUptoSaid : Prop := watchesLoopsAreRingsUptoRow.holds Try.pinned (OpenSpec.upto watchesLoopsAreRingsSpec)

/-- 'perigeelaw8.WatchesMatchSpec', WHERE WHAT IT READS IS OF BULK AT MOST 1048576: true; the input reads as it did. -/
def watchesMatchSpecUptoRow : OpenClaim := { program := "ytadhpgecilhgnaa", sum := "2777d96a7a4c6fb1d682c241bd6363a9c759e04cbd0f2bb36908c67bcf54b449", func := "perigee/perigeelaw8.WatchesMatchSpec", spec := "watchesMatchSpec", plainKeys := false, apart := false, narrowed := true }
def WatchesMatchSpecUptoSaid : Prop := watchesMatchSpecUptoRow.holds Try.pinned (OpenSpec.upto watchesMatchSpecSpec)

/-- 'perigeelaw8.WatchesPlayInParts', WHERE WHAT IT READS IS OF BULK AT MOST 1048576: true; the input reads as it did. -/
def watchesPlayInPartsUptoRow : OpenClaim := { program := "ytadhpgecilhgnaa", sum := "2777d96a7a4c6fb1d682c241bd6363a9c759e04cbd0f2bb36908c67bcf54b449", func := "perigee/perigeelaw8.WatchesPlayInParts", spec := "watchesPlayInParts", plainKeys := false, apart := false, narrowed := true }
def WatchesPlayInPartsUptoSaid : Prop := watchesPlayInPartsUptoRow.holds Try.pinned (OpenSpec.upto watchesPlayInPartsSpec)

/-- 'perigeelaw8.WatchesLoopsMatchSpec', WHERE WHAT IT READS IS OF BULK AT MOST 1048576: true; the input reads as it did. -/
def watchesLoopsMatchSpecUptoRow : OpenClaim := { program := "ytadhpgecilhgnaa", sum := "2777d96a7a4c6fb1d682c241bd6363a9c759e04cbd0f2bb36908c67bcf54b449", func := "perigee/perigeelaw8.WatchesLoopsMatchSpec", spec := "watchesLoopsMatchSpec", plainKeys := false, apart := false, narrowed := true }
def WatchesLoopsMatchSpecUptoSaid : Prop := watchesLoopsMatchSpecUptoRow.holds Try.pinned (OpenSpec.upto watchesLoopsMatchSpecSpec)

/-- 'perigeelaw8.WatchesModesAreReached', WHERE WHAT IT READS IS OF BULK AT MOST 1048576: true; the input reads as it did. -/
def watchesModesAreReachedUptoRow : OpenClaim := { program := "ytadhpgecilhgnaa", sum := "2777d96a7a4c6fb1d682c241bd6363a9c759e04cbd0f2bb36908c67bcf54b449", func := "perigee/perigeelaw8.WatchesModesAreReached", spec := "watchesModesAreReached", plainKeys := false, apart := false, narrowed := true }
def WatchesModesAreReachedUptoSaid : Prop := watchesModesAreReachedUptoRow.holds Try.pinned (OpenSpec.upto watchesModesAreReachedSpec)

/-- 'perigeelaw8.WatchesNeverFire', WHERE WHAT IT READS IS OF BULK AT MOST 1048576: true; the input reads as it did. -/
def watchesNeverFireUptoRow : OpenClaim := { program := "ytadhpgecilhgnaa", sum := "2777d96a7a4c6fb1d682c241bd6363a9c759e04cbd0f2bb36908c67bcf54b449", func := "perigee/perigeelaw8.WatchesNeverFire", spec := "watchesNeverFire", inPlace := ["slices.overlaps[string]"], plainKeys := false, apart := false, narrowed := true }
def WatchesNeverFireUptoSaid : Prop := watchesNeverFireUptoRow.holds Try.pinned (OpenSpec.upto watchesNeverFireSpec)

/-- 'perigeelaw8.WatchesWaysAreShortest', WHERE WHAT IT READS IS OF BULK AT MOST 1048576: true; the input reads as it did. -/
def watchesWaysAreShortestUptoRow : OpenClaim := { program := "ytadhpgecilhgnaa", sum := "2777d96a7a4c6fb1d682c241bd6363a9c759e04cbd0f2bb36908c67bcf54b449", func := "perigee/perigeelaw8.WatchesWaysAreShortest", spec := "watchesWaysAreShortest", recurses := true, plainKeys := false, apart := false, narrowed := true }
def WatchesWaysAreShortestUptoSaid : Prop := watchesWaysAreShortestUptoRow.holds Try.pinned (OpenSpec.upto watchesWaysAreShortestSpec)

/-- 'perigeelaw8.WatchesWaysLeadThere', WHERE WHAT IT READS IS OF BULK AT MOST 1048576: true; the input reads as it did. -/
def watchesWaysLeadThereUptoRow : OpenClaim := { program := "ytadhpgecilhgnaa", sum := "2777d96a7a4c6fb1d682c241bd6363a9c759e04cbd0f2bb36908c67bcf54b449", func := "perigee/perigeelaw8.WatchesWaysLeadThere", spec := "watchesWaysLeadThere", recurses := true, plainKeys := false, apart := false, narrowed := true }
def WatchesWaysLeadThereUptoSaid : Prop := watchesWaysLeadThereUptoRow.holds Try.pinned (OpenSpec.upto watchesWaysLeadThereSpec)

/-- 'perigeelaw8.WatchesStateMatchSpec', WHERE WHAT IT READS IS OF BULK AT MOST 1048576: true; the input reads as it did. -/
def watchesStateMatchSpecUptoRow : OpenClaim := { program := "ytadhpgecilhgnaa", sum := "2777d96a7a4c6fb1d682c241bd6363a9c759e04cbd0f2bb36908c67bcf54b449", func := "perigee/perigeelaw8.WatchesStateMatchSpec", spec := "watchesStateMatchSpec", recurses := true, plainKeys := false, apart := false, narrowed := true }
def WatchesStateMatchSpecUptoSaid : Prop := watchesStateMatchSpecUptoRow.holds Try.pinned (OpenSpec.upto watchesStateMatchSpecSpec)

/-- 'perigeelaw8.WatchesFindMatchSpec', WHERE WHAT IT READS IS OF BULK AT MOST 1048576: true; the input reads as it did. -/
def watchesFindMatchSpecUptoRow : OpenClaim := { program := "ytadhpgecilhgnaa", sum := "2777d96a7a4c6fb1d682c241bd6363a9c759e04cbd0f2bb36908c67bcf54b449", func := "perigee/perigeelaw8.WatchesFindMatchSpec", spec := "watchesFindMatchSpec", recurses := true, plainKeys := false, apart := false, narrowed := true }
def WatchesFindMatchSpecUptoSaid : Prop := watchesFindMatchSpecUptoRow.holds Try.pinned (OpenSpec.upto watchesFindMatchSpecSpec)

end Rows
end Go.Proofs.Ytadhpgecilhgnaa
