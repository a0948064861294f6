/- Load, Fastest and Oldest are as the reference says them, with all errors, for all parameters, layouts, regular sendings, lengths, rates and names. -/
import Derived.Below
import Derived.Carry
import Derived.ChangeOld
import Derived.OpenShut
import Derived.ProofKit
import Derived.ShutString
import Derived.SizedLaws
import Derived.Test.YtcefbdknoelacaaRows
import Derived.WalkKit
import Derived.Test.YtcefbdknoelacaaCTelemetryLoadMatchesSpec6
-- YtcefbdknoelacaaRTelemetryLoadMatchesSpecg
namespace Go.Proofs.Ytcefbdknoelacaa.telemetryLoadMatchesSpec
open Go.ChangeShapes Go.WideShapes Go.ChangeAt Go.RowKit Go.Proofs.Ytcefbdknoelacaa.A
set_option linter.unusedVariables false
theorem fact3 : (Rows.telemetryLoadMatchesSpecRow.recurses == Try.pinned.checked.prog.recurses 15) = true := by kernel_rfl
theorem fact4 : (Rows.telemetryLoadMatchesSpecRow.named == Try.pinned.checked.prog.varsNamed 15) = true := by kernel_rfl
end Go.Proofs.Ytcefbdknoelacaa.telemetryLoadMatchesSpec
