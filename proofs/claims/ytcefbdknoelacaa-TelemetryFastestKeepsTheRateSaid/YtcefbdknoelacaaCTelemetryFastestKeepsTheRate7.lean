/- With the time that Fastest says no more is sent in 1000 milliseconds than the rate, and with one less there is, for all parameters, layouts, regular sendings and rates. -/
import Derived.Below
import Derived.Carry
import Derived.ChangeOld
import Derived.OpenShut
import Derived.ProofKit
import Derived.ShutString
import Derived.SizedLaws
import Derived.Test.YtcefbdknoelacaaRows
import Derived.WalkKit
import Derived.Test.YtcefbdknoelacaaCTelemetryFastestKeepsTheRate6
-- YtcefbdknoelacaaRTelemetryFastestKeepsTheRateg
namespace Go.Proofs.Ytcefbdknoelacaa.telemetryFastestKeepsTheRate
open Go.ChangeShapes Go.WideShapes Go.ChangeAt Go.RowKit Go.Proofs.Ytcefbdknoelacaa.A
set_option linter.unusedVariables false
theorem fact3 : (Rows.telemetryFastestKeepsTheRateRow.recurses == Try.pinned.checked.prog.recurses 13) = true := by kernel_rfl
theorem fact4 : (Rows.telemetryFastestKeepsTheRateRow.named == Try.pinned.checked.prog.varsNamed 13) = true := by kernel_rfl
end Go.Proofs.Ytcefbdknoelacaa.telemetryFastestKeepsTheRate
