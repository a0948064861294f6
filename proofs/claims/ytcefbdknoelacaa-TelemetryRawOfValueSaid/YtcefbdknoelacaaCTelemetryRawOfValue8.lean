/- The raw number of what a raw number means is this one, if it may be asked; no condition but the guard -/
import Derived.Below
import Derived.Carry
import Derived.ChangeArms
import Derived.ChangeOld
import Derived.ChangeSlices
import Derived.DataElems
import Derived.DataReads
import Derived.IntWalk
import Derived.Lib.RabinKarpLaws
import Derived.Lib.Strings
import Derived.OpenShut
import Derived.ProofKit
import Derived.ShutString
import Derived.SizedLaws
import Derived.Test.YtcefbdknoelacaaRows
import Derived.WalkKit
import Derived.Test.YtcefbdknoelacaaCTelemetryRawOfValue7
namespace Go.Proofs.Ytcefbdknoelacaa.telemetryRawOfValue
open Go.ChangeShapes Go.WideShapes Go.ChangeAt Go.RowKit Go.Proofs.Ytcefbdknoelacaa.Open Go.Proofs.Ytcefbdknoelacaa.P
open Go.ChangeMaps (open_string shut_string)
set_option linter.unusedVariables false
theorem fact3 : (Rows.telemetryRawOfValueRow.recurses == Try.pinned.checked.prog.recurses 6) = true := by kernel_rfl
theorem fact4 : (Rows.telemetryRawOfValueRow.named == Try.pinned.checked.prog.varsNamed 6) = true := by kernel_rfl
end Go.Proofs.Ytcefbdknoelacaa.telemetryRawOfValue
