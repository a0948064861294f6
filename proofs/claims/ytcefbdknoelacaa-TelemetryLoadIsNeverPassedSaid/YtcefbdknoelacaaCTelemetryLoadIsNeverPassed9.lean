/- What is sent in a span is never more than the load that is told for spans of its length (Load, Sent, Bits), at all parameters, layouts, regular sendings, lengths and moments. -/
import Derived.Below
import Derived.Carry
import Derived.ChangeOld
import Derived.OpenShut
import Derived.ProofKit
import Derived.ShutString
import Derived.SizedLaws
import Derived.Test.YtcefbdknoelacaaRows
import Derived.WalkKit
import Derived.Test.YtcefbdknoelacaaCTelemetryLoadIsNeverPassed8
namespace Go.Proofs.Ytcefbdknoelacaa.telemetryLoadIsNeverPassed
open Go.ChangeShapes Go.WideShapes Go.ChangeAt Go.RowKit Go.Proofs.Ytcefbdknoelacaa.A
set_option linter.unusedVariables false
theorem over : Rows.telemetryLoadIsNeverPassedRow.holds Try.pinned (OpenSpec.ofChange Rows.telemetryLoadIsNeverPassedSpec) :=
 OpenClaim.holds_of_wide 14 Try.f14 rfl rfl rfl rfl rfl rfl rfl ⟨rfl, rfl, rfl, rfl, rfl⟩ rfl rfl rfl rfl rfl (by kernel_rfl) Try.func14 (by unfold joinedFacts; rw [fact1, fact2, fact3, fact4, fact5.1, fact5.2.1, fact5.2.2]; kernel_rfl)
  (of_decide_eq_true (by kernel_rfl)) (by unfold Func.isWrapper; first | (rw [if_pos (by decide +kernel)]; kernel_rfl) | (rw [if_neg (by decide +kernel)]; exact ⟨rfl, rfl⟩))
  (fun os started H enc _ => lifted os started H enc)
theorem proved : Rows.TelemetryLoadIsNeverPassedSaid := over
#print axioms proved
end Go.Proofs.Ytcefbdknoelacaa.telemetryLoadIsNeverPassed
namespace Go.Proofs.Ytcefbdknoelacaa
theorem telemetryLoadIsNeverPassed_holds : Rows.TelemetryLoadIsNeverPassedSaid := telemetryLoadIsNeverPassed.proved
end Go.Proofs.Ytcefbdknoelacaa
