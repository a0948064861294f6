/- Of each parameter no two events behind one another have the same name, and the last one says the state at the end, for all limits and samples. -/
import Derived.Below
import Derived.Carry
import Derived.ChangeOld
import Derived.OpenShut
import Derived.ProofKit
import Derived.ShutString
import Derived.SizedLaws
import Derived.Test.YtodnfnnfjnnhmaaRows
import Derived.WalkKit
import Derived.Test.YtodnfnnfjnnhmaaCLimitsEventsAlternate6
-- YtodnfnnfjnnhmaaRLimitsEventsAlternate2
namespace Go.Proofs.Ytodnfnnfjnnhmaa.limitsEventsAlternate
open Go.ChangeShapes Go.WideShapes Go.ChangeAt Go.RowKit Go.Proofs.Ytodnfnnfjnnhmaa.A
set_option linter.unusedVariables false
theorem over : Rows.limitsEventsAlternateRow.holds Try.pinned (OpenSpec.ofChange Rows.limitsEventsAlternateSpec) :=
 OpenClaim.holds_of_wide 7 Try.f7 rfl rfl rfl rfl rfl rfl rfl ⟨rfl, rfl, rfl, rfl, rfl⟩ rfl rfl rfl rfl rfl (by kernel_rfl) Try.func7 (by unfold joinedFacts; rw [fact1, fact2, fact3, fact4]; kernel_rfl)
  (of_decide_eq_true (by kernel_rfl)) (by unfold Func.isWrapper; first | (rw [if_pos (by decide +kernel)]; kernel_rfl) | (rw [if_neg (by decide +kernel)]; exact ⟨rfl, rfl⟩))
  (fun os started H enc _ => lifted os started H enc)
theorem proved : Rows.LimitsEventsAlternateSaid := over
#print axioms proved
end Go.Proofs.Ytodnfnnfjnnhmaa.limitsEventsAlternate
namespace Go.Proofs.Ytodnfnnfjnnhmaa
theorem limitsEventsAlternate_holds : Rows.LimitsEventsAlternateSaid := limitsEventsAlternate.proved
end Go.Proofs.Ytodnfnnfjnnhmaa
