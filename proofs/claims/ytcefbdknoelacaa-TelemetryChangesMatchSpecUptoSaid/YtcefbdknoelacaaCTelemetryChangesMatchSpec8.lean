/- Changes and Changed are as specified, with all errors, where what comes in is of bulk 1048576 at most (the reference makes eight truths of each byte, which no machine has room for at the greatest lengths). -/
import Derived.Below
import Derived.Carry
import Derived.ChangeOld
import Derived.Deep.CondSized
import Derived.JoinedCond
import Derived.OpenShut
import Derived.ProofKit
import Derived.ShutString
import Derived.SizedLaws
import Derived.Test.YtcefbdknoelacaaRows
import Derived.WalkKit
import Derived.Test.YtcefbdknoelacaaCTelemetryChangesMatchSpec7
namespace Go.Proofs.Ytcefbdknoelacaa.telemetryChangesMatchSpec
open Go.ChangeShapes Go.WideShapes Go.ChangeAt Go.RowKit Go.Proofs.Ytcefbdknoelacaa.A
set_option linter.unusedVariables false
theorem over : Rows.telemetryChangesMatchSpecUptoRow.holds Try.pinned (Rows.OpenSpec.upto Rows.telemetryChangesMatchSpecSpec) :=
 OpenClaim.holds_of_cond 12 Try.f12 rfl rfl rfl rfl rfl rfl rfl ⟨rfl, rfl, rfl, rfl, rfl⟩ rfl rfl rfl rfl rfl (by kernel_rfl) Try.func12 (by unfold joinedFacts; rw [fact1, fact2, fact3, fact4, fact5.1, fact5.2.1, fact5.2.2]; kernel_rfl)
  (of_decide_eq_true (by kernel_rfl)) (by unfold Func.isWrapper; first | (rw [if_pos (by decide +kernel)]; kernel_rfl) | (rw [if_neg (by decide +kernel)]; exact ⟨rfl, rfl⟩))
  (fun os started H enc _ F => lifted os started H enc F)
theorem proved : Rows.TelemetryChangesMatchSpecUptoSaid := over
#print axioms proved
end Go.Proofs.Ytcefbdknoelacaa.telemetryChangesMatchSpec
namespace Go.Proofs.Ytcefbdknoelacaa
theorem telemetryChangesMatchSpec_holds : Rows.TelemetryChangesMatchSpecUptoSaid := telemetryChangesMatchSpec.proved
end Go.Proofs.Ytcefbdknoelacaa
