/- What is sent in a span is never more than the load that is told for spans of its length (Load, Sent, Bits), at all parameters, layouts, regular sendings, lengths and moments. -/
import Derived.Below
import Derived.Carry
import Derived.ChangeOld
import Derived.OpenShut
import Derived.ProofKit
import Derived.ShutString
import Derived.SizedLaws
import Derived.Test.YtcefbdknoelacaaRows
import Derived.WalkKit
import Derived.Test.YtcefbdknoelacaaCTelemetryLoadIsNeverPassed7
namespace Go.Proofs.Ytcefbdknoelacaa.telemetryLoadIsNeverPassed
open Go.ChangeShapes Go.WideShapes Go.ChangeAt Go.RowKit Go.Proofs.Ytcefbdknoelacaa.A
set_option linter.unusedVariables false
theorem and3 {a b c : Bool} (h : (a && (b && c)) = true) : a = true ∧ b = true ∧ c = true := by cases a <;> cases b <;> cases c <;> simp_all
theorem all5 : (Try.pinned.checked.prog.mayEnter && ((Rows.telemetryLoadIsNeverPassedRow.lifted == Try.pinned.checked.prog.liftsFinal) && (Try.pinned.checked.prog.make == some Rows.telemetryLoadIsNeverPassedRow.make))) = true := by kernel_rfl
theorem fact5 : Try.pinned.checked.prog.mayEnter = true ∧ (Rows.telemetryLoadIsNeverPassedRow.lifted == Try.pinned.checked.prog.liftsFinal) = true ∧ (Try.pinned.checked.prog.make == some Rows.telemetryLoadIsNeverPassedRow.make) = true := and3 all5
end Go.Proofs.Ytcefbdknoelacaa.telemetryLoadIsNeverPassed
