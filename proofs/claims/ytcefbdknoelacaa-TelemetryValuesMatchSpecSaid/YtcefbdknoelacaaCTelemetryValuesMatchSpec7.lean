/- CheckParameters and Value answer as the reference's do, with all errors; no condition but the guard -/
import Derived.Below
import Derived.Carry
import Derived.ChangeArms
import Derived.ChangeOld
import Derived.ChangeSlices
import Derived.DataElems
import Derived.DataReads
import Derived.IntWalk
import Derived.Lib.Strings
import Derived.OpenShut
import Derived.ProofKit
import Derived.ShutString
import Derived.SizedLaws
import Derived.Test.YtcefbdknoelacaaRows
import Derived.WalkKit
import Derived.Test.YtcefbdknoelacaaCTelemetryValuesMatchSpec6
namespace Go.Proofs.Ytcefbdknoelacaa.telemetryValuesMatchSpec
open Go.ChangeShapes Go.WideShapes Go.ChangeAt Go.RowKit Go.Proofs.Ytcefbdknoelacaa.Open Go.Proofs.Ytcefbdknoelacaa.P
open Go.ChangeMaps (open_string shut_string)
set_option linter.unusedVariables false
theorem fact1 : (Rows.telemetryValuesMatchSpecRow.inPlace == Try.pinned.checked.prog.inPlace 3) = true := by kernel_rfl
theorem fact2 : (Rows.telemetryValuesMatchSpecRow.unfollowed == Try.pinned.checked.prog.unfollowed 3) = true := by kernel_rfl
end Go.Proofs.Ytcefbdknoelacaa.telemetryValuesMatchSpec
