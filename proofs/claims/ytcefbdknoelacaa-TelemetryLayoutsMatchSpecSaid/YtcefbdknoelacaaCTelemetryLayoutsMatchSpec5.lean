/- CheckLayouts, Bits, Filled and Emptied are as specified, with all errors; no condition. -/
import Derived.Below
import Derived.Carry
import Derived.ChangeOld
import Derived.OpenShut
import Derived.ProofKit
import Derived.ShutString
import Derived.SizedLaws
import Derived.Test.YtcefbdknoelacaaRows
import Derived.WalkKit
import Derived.Test.YtcefbdknoelacaaCTelemetryLayoutsMatchSpec4
namespace Go.Proofs.Ytcefbdknoelacaa.telemetryLayoutsMatchSpec
open Go.ChangeShapes Go.WideShapes Go.ChangeAt Go.RowKit Go.Proofs.Ytcefbdknoelacaa.A
set_option linter.unusedVariables false
theorem fact1 : (Rows.telemetryLayoutsMatchSpecRow.inPlace == Try.pinned.checked.prog.inPlace 10) = true := by kernel_rfl
theorem fact2 : (Rows.telemetryLayoutsMatchSpecRow.unfollowed == Try.pinned.checked.prog.unfollowed 10) = true := by kernel_rfl
end Go.Proofs.Ytcefbdknoelacaa.telemetryLayoutsMatchSpec
