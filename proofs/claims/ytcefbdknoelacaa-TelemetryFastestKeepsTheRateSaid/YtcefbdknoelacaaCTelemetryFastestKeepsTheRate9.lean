/- With the time that Fastest says no more is sent in 1000 milliseconds than the rate, and with one less there is, for all parameters, layouts, regular sendings and rates. -/
import Derived.Below
import Derived.Carry
import Derived.ChangeOld
import Derived.OpenShut
import Derived.ProofKit
import Derived.ShutString
import Derived.SizedLaws
import Derived.Test.YtcefbdknoelacaaRows
import Derived.WalkKit
import Derived.Test.YtcefbdknoelacaaCTelemetryFastestKeepsTheRate8
namespace Go.Proofs.Ytcefbdknoelacaa.telemetryFastestKeepsTheRate
open Go.ChangeShapes Go.WideShapes Go.ChangeAt Go.RowKit Go.Proofs.Ytcefbdknoelacaa.A
set_option linter.unusedVariables false
theorem over : Rows.telemetryFastestKeepsTheRateRow.holds Try.pinned (OpenSpec.ofChange Rows.telemetryFastestKeepsTheRateSpec) :=
 OpenClaim.holds_of_wide 13 Try.f13 rfl rfl rfl rfl rfl rfl rfl ⟨rfl, rfl, rfl, rfl, rfl⟩ rfl rfl rfl rfl rfl (by kernel_rfl) Try.func13 (by unfold joinedFacts; rw [fact1, fact2, fact3, fact4, fact5.1, fact5.2.1, fact5.2.2]; kernel_rfl)
  (of_decide_eq_true (by kernel_rfl)) (by unfold Func.isWrapper; first | (rw [if_pos (by decide +kernel)]; kernel_rfl) | (rw [if_neg (by decide +kernel)]; exact ⟨rfl, rfl⟩))
  (fun os started H enc _ => lifted os started H enc)
theorem proved : Rows.TelemetryFastestKeepsTheRateSaid := over
#print axioms proved
end Go.Proofs.Ytcefbdknoelacaa.telemetryFastestKeepsTheRate
namespace Go.Proofs.Ytcefbdknoelacaa
theorem telemetryFastestKeepsTheRate_holds : Rows.TelemetryFastestKeepsTheRateSaid := telemetryFastestKeepsTheRate.proved
end Go.Proofs.Ytcefbdknoelacaa
