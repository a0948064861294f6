/- What is sent over a span is what is sent over its two parts, one behind the other (Sent and slices.Concat), at all parameters, layouts, regular sendings and spans. -/
import Derived.Below
import Derived.Carry
import Derived.ChangeOld
import Derived.OpenShut
import Derived.ProofKit
import Derived.ShutString
import Derived.SizedLaws
import Derived.Test.YtcefbdknoelacaaRows
import Derived.WalkKit
import Derived.Test.YtcefbdknoelacaaCTelemetrySentInParts7
namespace Go.Proofs.Ytcefbdknoelacaa.telemetrySentInParts
open Go.ChangeShapes Go.WideShapes Go.ChangeAt Go.RowKit Go.Proofs.Ytcefbdknoelacaa.A
set_option linter.unusedVariables false
theorem over : Rows.telemetrySentInPartsRow.holds Try.pinned (OpenSpec.ofChange Rows.telemetrySentInPartsSpec) :=
 OpenClaim.holds_of_wide 9 Try.f9 rfl rfl rfl rfl rfl rfl rfl ⟨rfl, rfl, rfl, rfl, rfl⟩ rfl rfl rfl rfl rfl (by kernel_rfl) Try.func9 (by unfold joinedFacts; rw [fact1, fact2, fact3, fact4, fact5.1, fact5.2.1, fact5.2.2]; kernel_rfl)
  (of_decide_eq_true (by kernel_rfl)) (by unfold Func.isWrapper; first | (rw [if_pos (by decide +kernel)]; kernel_rfl) | (rw [if_neg (by decide +kernel)]; exact ⟨rfl, rfl⟩))
  (fun os started H enc _ => lifted os started H enc)
theorem proved : Rows.TelemetrySentInPartsSaid := over
#print axioms proved
end Go.Proofs.Ytcefbdknoelacaa.telemetrySentInParts
namespace Go.Proofs.Ytcefbdknoelacaa
theorem telemetrySentInParts_holds : Rows.TelemetrySentInPartsSaid := telemetrySentInParts.proved
end Go.Proofs.Ytcefbdknoelacaa
