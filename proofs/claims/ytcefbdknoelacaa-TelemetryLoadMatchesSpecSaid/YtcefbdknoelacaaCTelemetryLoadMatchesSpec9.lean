/- Load, Fastest and Oldest are as the reference says them, with all errors, for all parameters, layouts, regular sendings, lengths, rates and names. -/
import Derived.Below
import Derived.Carry
import Derived.ChangeOld
import Derived.OpenShut
import Derived.ProofKit
import Derived.ShutString
import Derived.SizedLaws
import Derived.Test.YtcefbdknoelacaaRows
import Derived.WalkKit
import Derived.Test.YtcefbdknoelacaaCTelemetryLoadMatchesSpec8
namespace Go.Proofs.Ytcefbdknoelacaa.telemetryLoadMatchesSpec
open Go.ChangeShapes Go.WideShapes Go.ChangeAt Go.RowKit Go.Proofs.Ytcefbdknoelacaa.A
set_option linter.unusedVariables false
theorem over : Rows.telemetryLoadMatchesSpecRow.holds Try.pinned (OpenSpec.ofChange Rows.telemetryLoadMatchesSpecSpec) :=
 OpenClaim.holds_of_wide 15 Try.f15 rfl rfl rfl rfl rfl rfl rfl ⟨rfl, rfl, rfl, rfl, rfl⟩ rfl rfl rfl rfl rfl (by kernel_rfl) Try.func15 (by unfold joinedFacts; rw [fact1, fact2, fact3, fact4, fact5.1, fact5.2.1, fact5.2.2]; kernel_rfl)
  (of_decide_eq_true (by kernel_rfl)) (by unfold Func.isWrapper; first | (rw [if_pos (by decide +kernel)]; kernel_rfl) | (rw [if_neg (by decide +kernel)]; exact ⟨rfl, rfl⟩))
  (fun os started H enc _ => lifted os started H enc)
theorem proved : Rows.TelemetryLoadMatchesSpecSaid := over
#print axioms proved
end Go.Proofs.Ytcefbdknoelacaa.telemetryLoadMatchesSpec
namespace Go.Proofs.Ytcefbdknoelacaa
theorem telemetryLoadMatchesSpec_holds : Rows.TelemetryLoadMatchesSpecSaid := telemetryLoadMatchesSpec.proved
end Go.Proofs.Ytcefbdknoelacaa
