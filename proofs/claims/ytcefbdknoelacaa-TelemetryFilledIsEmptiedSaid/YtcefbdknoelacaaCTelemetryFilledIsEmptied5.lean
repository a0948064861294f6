/- What is filled into a layout is taken out again, and what is taken out of bytes fills these bytes; no condition. -/
import Derived.Below
import Derived.Carry
import Derived.ChangeOld
import Derived.OpenShut
import Derived.ProofKit
import Derived.ShutString
import Derived.SizedLaws
import Derived.Test.YtcefbdknoelacaaRows
import Derived.WalkKit
import Derived.Test.YtcefbdknoelacaaCTelemetryFilledIsEmptied4
namespace Go.Proofs.Ytcefbdknoelacaa.telemetryFilledIsEmptied
open Go.ChangeShapes Go.WideShapes Go.ChangeAt Go.RowKit Go.Proofs.Ytcefbdknoelacaa.A
set_option linter.unusedVariables false
theorem fact1 : (Rows.telemetryFilledIsEmptiedRow.inPlace == Try.pinned.checked.prog.inPlace 8) = true := by kernel_rfl
theorem fact2 : (Rows.telemetryFilledIsEmptiedRow.unfollowed == Try.pinned.checked.prog.unfollowed 8) = true := by kernel_rfl
end Go.Proofs.Ytcefbdknoelacaa.telemetryFilledIsEmptied
