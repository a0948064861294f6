/- CheckLayouts, Bits, Filled and Emptied are as specified, with all errors; no condition. -/
import Derived.Below
import Derived.Carry
import Derived.ChangeOld
import Derived.OpenShut
import Derived.ProofKit
import Derived.ShutString
import Derived.SizedLaws
import Derived.Test.YtcefbdknoelacaaRows
import Derived.WalkKit
import Derived.Test.YtcefbdknoelacaaCTelemetryLayoutsMatchSpec7
namespace Go.Proofs.Ytcefbdknoelacaa.telemetryLayoutsMatchSpec
open Go.ChangeShapes Go.WideShapes Go.ChangeAt Go.RowKit Go.Proofs.Ytcefbdknoelacaa.A
set_option linter.unusedVariables false
theorem over : Rows.telemetryLayoutsMatchSpecRow.holds Try.pinned (OpenSpec.ofChange Rows.telemetryLayoutsMatchSpecSpec) :=
 OpenClaim.holds_of_wide 10 Try.f10 rfl rfl rfl rfl rfl rfl rfl ⟨rfl, rfl, rfl, rfl, rfl⟩ rfl rfl rfl rfl rfl (by kernel_rfl) Try.func10 (by unfold joinedFacts; rw [fact1, fact2, fact3, fact4, fact5.1, fact5.2.1, fact5.2.2]; kernel_rfl)
  (of_decide_eq_true (by kernel_rfl)) (by unfold Func.isWrapper; first | (rw [if_pos (by decide +kernel)]; kernel_rfl) | (rw [if_neg (by decide +kernel)]; exact ⟨rfl, rfl⟩))
  (fun os started H enc _ => lifted os started H enc)
theorem proved : Rows.TelemetryLayoutsMatchSpecSaid := over
#print axioms proved
end Go.Proofs.Ytcefbdknoelacaa.telemetryLayoutsMatchSpec
namespace Go.Proofs.Ytcefbdknoelacaa
theorem telemetryLayoutsMatchSpec_holds : Rows.TelemetryLayoutsMatchSpecSaid := telemetryLayoutsMatchSpec.proved
end Go.Proofs.Ytcefbdknoelacaa
