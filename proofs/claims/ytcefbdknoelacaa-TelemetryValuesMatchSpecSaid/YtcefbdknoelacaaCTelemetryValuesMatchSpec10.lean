/- CheckParameters and Value answer as the reference's do, with all errors; no condition but the guard -/
import Derived.Below
import Derived.Carry
import Derived.ChangeArms
import Derived.ChangeOld
import Derived.ChangeSlices
import Derived.DataElems
import Derived.DataReads
import Derived.IntWalk
import Derived.Lib.Strings
import Derived.OpenShut
import Derived.ProofKit
import Derived.ShutString
import Derived.SizedLaws
import Derived.Test.YtcefbdknoelacaaRows
import Derived.WalkKit
import Derived.Test.YtcefbdknoelacaaCTelemetryValuesMatchSpec9
namespace Go.Proofs.Ytcefbdknoelacaa.telemetryValuesMatchSpec
open Go.ChangeShapes Go.WideShapes Go.ChangeAt Go.RowKit Go.Proofs.Ytcefbdknoelacaa.Open Go.Proofs.Ytcefbdknoelacaa.P
open Go.ChangeMaps (open_string shut_string)
set_option linter.unusedVariables false
theorem over : Rows.telemetryValuesMatchSpecRow.holds Try.pinned (OpenSpec.ofChange Rows.telemetryValuesMatchSpecSpec) :=
 OpenClaim.holds_of_wide 3 Try.f3 rfl rfl rfl rfl rfl rfl rfl ⟨rfl, rfl, rfl, rfl, rfl⟩ rfl rfl rfl rfl rfl (by kernel_rfl) Try.func3 (by unfold joinedFacts; rw [fact1, fact2, fact3, fact4, fact5.1, fact5.2.1, fact5.2.2]; kernel_rfl)
  (of_decide_eq_true (by kernel_rfl)) (by unfold Func.isWrapper; first | (rw [if_pos (by decide +kernel)]; kernel_rfl) | (rw [if_neg (by decide +kernel)]; exact ⟨rfl, rfl⟩))
  (fun os started H enc _ => lifted os started H enc)
theorem proved : Rows.TelemetryValuesMatchSpecSaid := over
#print axioms proved
end Go.Proofs.Ytcefbdknoelacaa.telemetryValuesMatchSpec
namespace Go.Proofs.Ytcefbdknoelacaa
theorem telemetryValuesMatchSpec_holds : Rows.TelemetryValuesMatchSpecSaid := telemetryValuesMatchSpec.proved
end Go.Proofs.Ytcefbdknoelacaa
