/- What changed makes the new readings of those before; where nothing did it has a bit for each part alone; no condition. -/
import Derived.Below
import Derived.Carry
import Derived.ChangeOld
import Derived.OpenShut
import Derived.ProofKit
import Derived.ShutString
import Derived.SizedLaws
import Derived.Test.YtcefbdknoelacaaRows
import Derived.WalkKit
import Derived.Test.YtcefbdknoelacaaCTelemetryChangedIsNow4
namespace Go.Proofs.Ytcefbdknoelacaa.telemetryChangedIsNow
open Go.ChangeShapes Go.WideShapes Go.ChangeAt Go.RowKit Go.Proofs.Ytcefbdknoelacaa.A
set_option linter.unusedVariables false
theorem fact1 : (Rows.telemetryChangedIsNowRow.inPlace == Try.pinned.checked.prog.inPlace 11) = true := by kernel_rfl
theorem fact2 : (Rows.telemetryChangedIsNowRow.unfollowed == Try.pinned.checked.prog.unfollowed 11) = true := by kernel_rfl
end Go.Proofs.Ytcefbdknoelacaa.telemetryChangedIsNow
