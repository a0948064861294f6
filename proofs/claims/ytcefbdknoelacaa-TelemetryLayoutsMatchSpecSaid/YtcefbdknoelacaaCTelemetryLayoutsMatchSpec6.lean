/- CheckLayouts, Bits, Filled and Emptied are as specified, with all errors; no condition. -/
import Derived.Below
import Derived.Carry
import Derived.ChangeOld
import Derived.OpenShut
import Derived.ProofKit
import Derived.ShutString
import Derived.SizedLaws
import Derived.Test.YtcefbdknoelacaaRows
import Derived.WalkKit
import Derived.Test.YtcefbdknoelacaaCTelemetryLayoutsMatchSpec5
namespace Go.Proofs.Ytcefbdknoelacaa.telemetryLayoutsMatchSpec
open Go.ChangeShapes Go.WideShapes Go.ChangeAt Go.RowKit Go.Proofs.Ytcefbdknoelacaa.A
set_option linter.unusedVariables false
theorem fact3 : (Rows.telemetryLayoutsMatchSpecRow.recurses == Try.pinned.checked.prog.recurses 10) = true := by kernel_rfl
theorem fact4 : (Rows.telemetryLayoutsMatchSpecRow.named == Try.pinned.checked.prog.varsNamed 10) = true := by kernel_rfl
end Go.Proofs.Ytcefbdknoelacaa.telemetryLayoutsMatchSpec
