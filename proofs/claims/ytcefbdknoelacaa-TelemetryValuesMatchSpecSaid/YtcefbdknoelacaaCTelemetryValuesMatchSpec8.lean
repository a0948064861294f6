/- CheckParameters and Value answer as the reference's do, with all errors; no condition but the guard -/
import Derived.Below
import Derived.Carry
import Derived.ChangeArms
import Derived.ChangeOld
import Derived.ChangeSlices
import Derived.DataElems
import Derived.DataReads
import Derived.IntWalk
import Derived.Lib.Strings
import Derived.OpenShut
import Derived.ProofKit
import Derived.ShutString
import Derived.SizedLaws
import Derived.Test.YtcefbdknoelacaaRows
import Derived.WalkKit
import Derived.Test.YtcefbdknoelacaaCTelemetryValuesMatchSpec7
namespace Go.Proofs.Ytcefbdknoelacaa.telemetryValuesMatchSpec
open Go.ChangeShapes Go.WideShapes Go.ChangeAt Go.RowKit Go.Proofs.Ytcefbdknoelacaa.Open Go.Proofs.Ytcefbdknoelacaa.P
open Go.ChangeMaps (open_string shut_string)
set_option linter.unusedVariables false
theorem fact3 : (Rows.telemetryValuesMatchSpecRow.recurses == Try.pinned.checked.prog.recurses 3) = true := by kernel_rfl
theorem fact4 : (Rows.telemetryValuesMatchSpecRow.named == Try.pinned.checked.prog.varsNamed 3) = true := by kernel_rfl
end Go.Proofs.Ytcefbdknoelacaa.telemetryValuesMatchSpec
