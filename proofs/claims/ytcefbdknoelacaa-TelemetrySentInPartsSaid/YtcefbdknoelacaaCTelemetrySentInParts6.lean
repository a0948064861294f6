/- What is sent over a span is what is sent over its two parts, one behind the other (Sent and slices.Concat), at all parameters, layouts, regular sendings and spans. -/
import Derived.Below
import Derived.Carry
import Derived.ChangeOld
import Derived.OpenShut
import Derived.ProofKit
import Derived.ShutString
import Derived.SizedLaws
import Derived.Test.YtcefbdknoelacaaRows
import Derived.WalkKit
import Derived.Test.YtcefbdknoelacaaCTelemetrySentInParts5
namespace Go.Proofs.Ytcefbdknoelacaa.telemetrySentInParts
open Go.ChangeShapes Go.WideShapes Go.ChangeAt Go.RowKit Go.Proofs.Ytcefbdknoelacaa.A
set_option linter.unusedVariables false
theorem fact3 : (Rows.telemetrySentInPartsRow.recurses == Try.pinned.checked.prog.recurses 9) = true := by kernel_rfl
theorem fact4 : (Rows.telemetrySentInPartsRow.named == Try.pinned.checked.prog.varsNamed 9) = true := by kernel_rfl
end Go.Proofs.Ytcefbdknoelacaa.telemetrySentInParts
