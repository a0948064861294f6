/- What changed makes the new readings of those before; where nothing did it has a bit for each part alone; no condition. -/
import Derived.Below
import Derived.Carry
import Derived.ChangeOld
import Derived.OpenShut
import Derived.ProofKit
import Derived.ShutString
import Derived.SizedLaws
import Derived.Test.YtcefbdknoelacaaRows
import Derived.WalkKit
import Derived.Test.YtcefbdknoelacaaCTelemetryChangedIsNow7
namespace Go.Proofs.Ytcefbdknoelacaa.telemetryChangedIsNow
open Go.ChangeShapes Go.WideShapes Go.ChangeAt Go.RowKit Go.Proofs.Ytcefbdknoelacaa.A
set_option linter.unusedVariables false
theorem over : Rows.telemetryChangedIsNowRow.holds Try.pinned (OpenSpec.ofChange Rows.telemetryChangedIsNowSpec) :=
 OpenClaim.holds_of_wide 11 Try.f11 rfl rfl rfl rfl rfl rfl rfl ⟨rfl, rfl, rfl, rfl, rfl⟩ rfl rfl rfl rfl rfl (by kernel_rfl) Try.func11 (by unfold joinedFacts; rw [fact1, fact2, fact3, fact4, fact5.1, fact5.2.1, fact5.2.2]; kernel_rfl)
  (of_decide_eq_true (by kernel_rfl)) (by unfold Func.isWrapper; first | (rw [if_pos (by decide +kernel)]; kernel_rfl) | (rw [if_neg (by decide +kernel)]; exact ⟨rfl, rfl⟩))
  (fun os started H enc _ => lifted os started H enc)
theorem proved : Rows.TelemetryChangedIsNowSaid := over
#print axioms proved
end Go.Proofs.Ytcefbdknoelacaa.telemetryChangedIsNow
namespace Go.Proofs.Ytcefbdknoelacaa
theorem telemetryChangedIsNow_holds : Rows.TelemetryChangedIsNowSaid := telemetryChangedIsNow.proved
end Go.Proofs.Ytcefbdknoelacaa
