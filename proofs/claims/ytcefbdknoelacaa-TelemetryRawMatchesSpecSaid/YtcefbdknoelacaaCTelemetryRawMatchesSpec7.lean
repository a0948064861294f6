/- Raw is as specified, with all errors; no condition. -/
import Derived.Below
import Derived.Carry
import Derived.ChangeOld
import Derived.KernelRfl
import Derived.Laws.Strings
import Derived.OpenShut
import Derived.ProofKit
import Derived.ShutString
import Derived.SizedLaws
import Derived.Test.YtcefbdknoelacaaRows
import Derived.WalkKit
import Derived.Test.YtcefbdknoelacaaCTelemetryRawMatchesSpec6
namespace Go.Proofs.Ytcefbdknoelacaa.telemetryRawMatchesSpec
open Go.ChangeShapes Go.WideShapes Go.ChangeAt Go.RowKit Go.Proofs.Ytcefbdknoelacaa.A
set_option linter.unusedVariables false
theorem over : Rows.telemetryRawMatchesSpecRow.holds Try.pinned (OpenSpec.ofChange Rows.telemetryRawMatchesSpecSpec) :=
 OpenClaim.holds_of_wide 4 Try.f4 rfl rfl rfl rfl rfl rfl rfl ⟨rfl, rfl, rfl, rfl, rfl⟩ rfl rfl rfl rfl rfl (by kernel_rfl) Try.func4 (by unfold joinedFacts; rw [fact1, fact2, fact3, fact4, fact5.1, fact5.2.1, fact5.2.2]; kernel_rfl)
  (of_decide_eq_true (by kernel_rfl)) (by unfold Func.isWrapper; first | (rw [if_pos (by decide +kernel)]; kernel_rfl) | (rw [if_neg (by decide +kernel)]; exact ⟨rfl, rfl⟩))
  (fun os started H enc _ => lifted os started H enc)
theorem proved : Rows.TelemetryRawMatchesSpecSaid := over
#print axioms proved
end Go.Proofs.Ytcefbdknoelacaa.telemetryRawMatchesSpec
namespace Go.Proofs.Ytcefbdknoelacaa
theorem telemetryRawMatchesSpec_holds : Rows.TelemetryRawMatchesSpecSaid := telemetryRawMatchesSpec.proved
end Go.Proofs.Ytcefbdknoelacaa
