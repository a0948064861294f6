/- What changed makes the new readings of those before; where nothing did it has a bit for each part alone; no condition. -/
import Derived.Below
import Derived.Carry
import Derived.ChangeOld
import Derived.OpenShut
import Derived.ProofKit
import Derived.ShutString
import Derived.SizedLaws
import Derived.Test.YtcefbdknoelacaaRows
import Derived.WalkKit
import Derived.Test.YtcefbdknoelacaaCTelemetryChangedIsNow5
namespace Go.Proofs.Ytcefbdknoelacaa.telemetryChangedIsNow
open Go.ChangeShapes Go.WideShapes Go.ChangeAt Go.RowKit Go.Proofs.Ytcefbdknoelacaa.A
set_option linter.unusedVariables false
theorem fact3 : (Rows.telemetryChangedIsNowRow.recurses == Try.pinned.checked.prog.recurses 11) = true := by kernel_rfl
theorem fact4 : (Rows.telemetryChangedIsNowRow.named == Try.pinned.checked.prog.varsNamed 11) = true := by kernel_rfl
end Go.Proofs.Ytcefbdknoelacaa.telemetryChangedIsNow
