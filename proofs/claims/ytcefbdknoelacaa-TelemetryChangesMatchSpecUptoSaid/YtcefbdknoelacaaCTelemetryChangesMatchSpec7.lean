/- Changes and Changed are as specified, with all errors, where what comes in is of bulk 1048576 at most (the reference makes eight truths of each byte, which no machine has room for at the greatest lengths). -/
import Derived.Below
import Derived.Carry
import Derived.ChangeOld
import Derived.Deep.CondSized
import Derived.JoinedCond
import Derived.OpenShut
import Derived.ProofKit
import Derived.ShutString
import Derived.SizedLaws
import Derived.Test.YtcefbdknoelacaaRows
import Derived.WalkKit
import Derived.Test.YtcefbdknoelacaaCTelemetryChangesMatchSpec6
namespace Go.Proofs.Ytcefbdknoelacaa.telemetryChangesMatchSpec
open Go.ChangeShapes Go.WideShapes Go.ChangeAt Go.RowKit Go.Proofs.Ytcefbdknoelacaa.A
set_option linter.unusedVariables false
theorem and3 {a b c : Bool} (h : (a && (b && c)) = true) : a = true ∧ b = true ∧ c = true := by cases a <;> cases b <;> cases c <;> simp_all
theorem all5 : (Try.pinned.checked.prog.mayEnter && ((Rows.telemetryChangesMatchSpecUptoRow.lifted == Try.pinned.checked.prog.liftsFinal) && (Try.pinned.checked.prog.make == some Rows.telemetryChangesMatchSpecUptoRow.make))) = true := by kernel_rfl
theorem fact5 : Try.pinned.checked.prog.mayEnter = true ∧ (Rows.telemetryChangesMatchSpecUptoRow.lifted == Try.pinned.checked.prog.liftsFinal) = true ∧ (Try.pinned.checked.prog.make == some Rows.telemetryChangesMatchSpecUptoRow.make) = true := and3 all5
end Go.Proofs.Ytcefbdknoelacaa.telemetryChangesMatchSpec
