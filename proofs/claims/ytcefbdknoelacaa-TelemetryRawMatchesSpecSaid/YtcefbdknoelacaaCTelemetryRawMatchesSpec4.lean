/- Raw is as specified, with all errors; no condition. -/
import Derived.Below
import Derived.Carry
import Derived.ChangeOld
import Derived.KernelRfl
import Derived.Laws.Strings
import Derived.OpenShut
import Derived.ProofKit
import Derived.ShutString
import Derived.SizedLaws
import Derived.Test.YtcefbdknoelacaaRows
import Derived.WalkKit
import Derived.Test.YtcefbdknoelacaaCTelemetryRawMatchesSpec3
namespace Go.Proofs.Ytcefbdknoelacaa.telemetryRawMatchesSpec
open Go.ChangeShapes Go.WideShapes Go.ChangeAt Go.RowKit Go.Proofs.Ytcefbdknoelacaa.A
set_option linter.unusedVariables false
theorem fact1 : (Rows.telemetryRawMatchesSpecRow.inPlace == Try.pinned.checked.prog.inPlace 4) = true := by kernel_rfl
theorem fact2 : (Rows.telemetryRawMatchesSpecRow.unfollowed == Try.pinned.checked.prog.unfollowed 4) = true := by kernel_rfl
end Go.Proofs.Ytcefbdknoelacaa.telemetryRawMatchesSpec
