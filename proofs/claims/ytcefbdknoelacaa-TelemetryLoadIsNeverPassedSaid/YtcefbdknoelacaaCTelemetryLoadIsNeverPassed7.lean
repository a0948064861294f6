/- What is sent in a span is never more than the load that is told for spans of its length (Load, Sent, Bits), at all parameters, layouts, regular sendings, lengths and moments. -/
import Derived.Below
import Derived.Carry
import Derived.ChangeOld
import Derived.OpenShut
import Derived.ProofKit
import Derived.ShutString
import Derived.SizedLaws
import Derived.Test.YtcefbdknoelacaaRows
import Derived.WalkKit
import Derived.Test.YtcefbdknoelacaaCTelemetryLoadIsNeverPassed6
-- YtcefbdknoelacaaRTelemetryLoadIsNeverPassedg
namespace Go.Proofs.Ytcefbdknoelacaa.telemetryLoadIsNeverPassed
open Go.ChangeShapes Go.WideShapes Go.ChangeAt Go.RowKit Go.Proofs.Ytcefbdknoelacaa.A
set_option linter.unusedVariables false
theorem fact3 : (Rows.telemetryLoadIsNeverPassedRow.recurses == Try.pinned.checked.prog.recurses 14) = true := by kernel_rfl
theorem fact4 : (Rows.telemetryLoadIsNeverPassedRow.named == Try.pinned.checked.prog.varsNamed 14) = true := by kernel_rfl
end Go.Proofs.Ytcefbdknoelacaa.telemetryLoadIsNeverPassed
