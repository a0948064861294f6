/- Load, Fastest and Oldest are as the reference says them, with all errors, for all parameters, layouts, regular sendings, lengths, rates and names. -/
import Derived.Below
import Derived.Carry
import Derived.ChangeOld
import Derived.OpenShut
import Derived.ProofKit
import Derived.ShutString
import Derived.SizedLaws
import Derived.Test.YtcefbdknoelacaaRows
import Derived.WalkKit
import Derived.Test.YtcefbdknoelacaaCTelemetryLoadMatchesSpec7
namespace Go.Proofs.Ytcefbdknoelacaa.telemetryLoadMatchesSpec
open Go.ChangeShapes Go.WideShapes Go.ChangeAt Go.RowKit Go.Proofs.Ytcefbdknoelacaa.A
set_option linter.unusedVariables false
theorem and3 {a b c : Bool} (h : (a && (b && c)) = true) : a = true ∧ b = true ∧ c = true := by cases a <;> cases b <;> cases c <;> simp_all
theorem all5 : (Try.pinned.checked.prog.mayEnter && ((Rows.telemetryLoadMatchesSpecRow.lifted == Try.pinned.checked.prog.liftsFinal) && (Try.pinned.checked.prog.make == some Rows.telemetryLoadMatchesSpecRow.make))) = true := by kernel_rfl
theorem fact5 : Try.pinned.checked.prog.mayEnter = true ∧ (Rows.telemetryLoadMatchesSpecRow.lifted == Try.pinned.checked.prog.liftsFinal) = true ∧ (Try.pinned.checked.prog.make == some Rows.telemetryLoadMatchesSpecRow.make) = true := and3 all5
end Go.Proofs.Ytcefbdknoelacaa.telemetryLoadMatchesSpec
