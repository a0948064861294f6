/- What is filled into a layout is taken out again, and what is taken out of bytes fills these bytes; no condition. -/
import Derived.Below
import Derived.Carry
import Derived.ChangeOld
import Derived.OpenShut
import Derived.ProofKit
import Derived.ShutString
import Derived.SizedLaws
import Derived.Test.YtcefbdknoelacaaRows
import Derived.WalkKit
import Derived.Test.YtcefbdknoelacaaCTelemetryFilledIsEmptied7
namespace Go.Proofs.Ytcefbdknoelacaa.telemetryFilledIsEmptied
open Go.ChangeShapes Go.WideShapes Go.ChangeAt Go.RowKit Go.Proofs.Ytcefbdknoelacaa.A
set_option linter.unusedVariables false
theorem over : Rows.telemetryFilledIsEmptiedRow.holds Try.pinned (OpenSpec.ofChange Rows.telemetryFilledIsEmptiedSpec) :=
 OpenClaim.holds_of_wide 8 Try.f8 rfl rfl rfl rfl rfl rfl rfl ⟨rfl, rfl, rfl, rfl, rfl⟩ rfl rfl rfl rfl rfl (by kernel_rfl) Try.func8 (by unfold joinedFacts; rw [fact1, fact2, fact3, fact4, fact5.1, fact5.2.1, fact5.2.2]; kernel_rfl)
  (of_decide_eq_true (by kernel_rfl)) (by unfold Func.isWrapper; first | (rw [if_pos (by decide +kernel)]; kernel_rfl) | (rw [if_neg (by decide +kernel)]; exact ⟨rfl, rfl⟩))
  (fun os started H enc _ => lifted os started H enc)
theorem proved : Rows.TelemetryFilledIsEmptiedSaid := over
#print axioms proved
end Go.Proofs.Ytcefbdknoelacaa.telemetryFilledIsEmptied
namespace Go.Proofs.Ytcefbdknoelacaa
theorem telemetryFilledIsEmptied_holds : Rows.TelemetryFilledIsEmptiedSaid := telemetryFilledIsEmptied.proved
end Go.Proofs.Ytcefbdknoelacaa
