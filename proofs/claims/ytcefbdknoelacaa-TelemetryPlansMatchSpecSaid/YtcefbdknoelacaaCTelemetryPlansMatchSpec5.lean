/- CheckPlan and Sent are as specified, with all errors; no condition. -/
import Derived.Below
import Derived.Carry
import Derived.ChangeOld
import Derived.OpenShut
import Derived.ProofKit
import Derived.ShutString
import Derived.SizedLaws
import Derived.Test.YtcefbdknoelacaaRows
import Derived.WalkKit
import Derived.Test.YtcefbdknoelacaaCTelemetryPlansMatchSpec4
namespace Go.Proofs.Ytcefbdknoelacaa.telemetryPlansMatchSpec
open Go.ChangeShapes Go.WideShapes Go.ChangeAt Go.RowKit Go.Proofs.Ytcefbdknoelacaa.A
set_option linter.unusedVariables false
theorem fact1 : (Rows.telemetryPlansMatchSpecRow.inPlace == Try.pinned.checked.prog.inPlace 7) = true := by kernel_rfl
theorem fact2 : (Rows.telemetryPlansMatchSpecRow.unfollowed == Try.pinned.checked.prog.unfollowed 7) = true := by kernel_rfl
end Go.Proofs.Ytcefbdknoelacaa.telemetryPlansMatchSpec
