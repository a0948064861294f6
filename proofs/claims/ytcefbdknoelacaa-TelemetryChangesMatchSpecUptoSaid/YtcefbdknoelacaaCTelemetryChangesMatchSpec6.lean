/- Changes and Changed are as specified, with all errors, where what comes in is of bulk 1048576 at most (the reference makes eight truths of each byte, which no machine has room for at the greatest lengths). -/
import Derived.Below
import Derived.Carry
import Derived.ChangeOld
import Derived.Deep.CondSized
import Derived.JoinedCond
import Derived.OpenShut
import Derived.ProofKit
import Derived.ShutString
import Derived.SizedLaws
import Derived.Test.YtcefbdknoelacaaRows
import Derived.WalkKit
import Derived.Test.YtcefbdknoelacaaCTelemetryChangesMatchSpec5
namespace Go.Proofs.Ytcefbdknoelacaa.telemetryChangesMatchSpec
open Go.ChangeShapes Go.WideShapes Go.ChangeAt Go.RowKit Go.Proofs.Ytcefbdknoelacaa.A
set_option linter.unusedVariables false
theorem fact3 : (Rows.telemetryChangesMatchSpecUptoRow.recurses == Try.pinned.checked.prog.recurses 12) = true := by kernel_rfl
theorem fact4 : (Rows.telemetryChangesMatchSpecUptoRow.named == Try.pinned.checked.prog.varsNamed 12) = true := by kernel_rfl
end Go.Proofs.Ytcefbdknoelacaa.telemetryChangesMatchSpec
