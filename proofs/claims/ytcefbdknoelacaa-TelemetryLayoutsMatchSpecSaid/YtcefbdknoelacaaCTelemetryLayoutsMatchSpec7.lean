/- CheckLayouts, Bits, Filled and Emptied are as specified, with all errors; no condition. -/
import Derived.Below
import Derived.Carry
import Derived.ChangeOld
import Derived.OpenShut
import Derived.ProofKit
import Derived.ShutString
import Derived.SizedLaws
import Derived.Test.YtcefbdknoelacaaRows
import Derived.WalkKit
import Derived.Test.YtcefbdknoelacaaCTelemetryLayoutsMatchSpec6
namespace Go.Proofs.Ytcefbdknoelacaa.telemetryLayoutsMatchSpec
open Go.ChangeShapes Go.WideShapes Go.ChangeAt Go.RowKit Go.Proofs.Ytcefbdknoelacaa.A
set_option linter.unusedVariables false
theorem and3 {a b c : Bool} (h : (a && (b && c)) = true) : a = true ∧ b = true ∧ c = true := by cases a <;> cases b <;> cases c <;> simp_all
theorem all5 : (Try.pinned.checked.prog.mayEnter && ((Rows.telemetryLayoutsMatchSpecRow.lifted == Try.pinned.checked.prog.liftsFinal) && (Try.pinned.checked.prog.make == some Rows.telemetryLayoutsMatchSpecRow.make))) = true := by kernel_rfl
theorem fact5 : Try.pinned.checked.prog.mayEnter = true ∧ (Rows.telemetryLayoutsMatchSpecRow.lifted == Try.pinned.checked.prog.liftsFinal) = true ∧ (Try.pinned.checked.prog.make == some Rows.telemetryLayoutsMatchSpecRow.make) = true := and3 all5
end Go.Proofs.Ytcefbdknoelacaa.telemetryLayoutsMatchSpec
