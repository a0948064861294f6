/- CheckParameters and Value answer as the reference's do, with all errors; no condition but the guard -/
import Derived.Below
import Derived.Carry
import Derived.ChangeArms
import Derived.ChangeOld
import Derived.ChangeSlices
import Derived.DataElems
import Derived.DataReads
import Derived.IntWalk
import Derived.Lib.Strings
import Derived.OpenShut
import Derived.ProofKit
import Derived.ShutString
import Derived.SizedLaws
import Derived.Test.YtcefbdknoelacaaRows
import Derived.WalkKit
import Derived.Test.YtcefbdknoelacaaCTelemetryValuesMatchSpec8
namespace Go.Proofs.Ytcefbdknoelacaa.telemetryValuesMatchSpec
open Go.ChangeShapes Go.WideShapes Go.ChangeAt Go.RowKit Go.Proofs.Ytcefbdknoelacaa.Open Go.Proofs.Ytcefbdknoelacaa.P
open Go.ChangeMaps (open_string shut_string)
set_option linter.unusedVariables false
theorem and3 {a b c : Bool} (h : (a && (b && c)) = true) : a = true ∧ b = true ∧ c = true := by cases a <;> cases b <;> cases c <;> simp_all
theorem all5 : (Try.pinned.checked.prog.mayEnter && ((Rows.telemetryValuesMatchSpecRow.lifted == Try.pinned.checked.prog.liftsFinal) && (Try.pinned.checked.prog.make == some Rows.telemetryValuesMatchSpecRow.make))) = true := by kernel_rfl
theorem fact5 : Try.pinned.checked.prog.mayEnter = true ∧ (Rows.telemetryValuesMatchSpecRow.lifted == Try.pinned.checked.prog.liftsFinal) = true ∧ (Try.pinned.checked.prog.make == some Rows.telemetryValuesMatchSpecRow.make) = true := and3 all5
end Go.Proofs.Ytcefbdknoelacaa.telemetryValuesMatchSpec
