/- A moment's code, filled into a layout of bytes and emptied again, reads as the moment (Code, Filled, ReadCode), at all moments. -/
import Derived.Below
import Derived.Carry
import Derived.ChangeOld
import Derived.OpenShut
import Derived.ProofKit
import Derived.ShutString
import Derived.SizedLaws
import Derived.Test.YtcefbdknoelacaaRows
import Derived.WalkKit
import Derived.Test.YtcefbdknoelacaaCTopCodesAreTold7
namespace Go.Proofs.Ytcefbdknoelacaa.topCodesAreTold
open Go.ChangeShapes Go.WideShapes Go.ChangeAt Go.RowKit Go.Proofs.Ytcefbdknoelacaa.A
set_option linter.unusedVariables false
theorem over : Rows.topCodesAreToldRow.holds Try.pinned (OpenSpec.ofChange Rows.topCodesAreToldSpec) :=
 OpenClaim.holds_of_wide 5 Try.f5 rfl rfl rfl rfl rfl rfl rfl ⟨rfl, rfl, rfl, rfl, rfl⟩ rfl rfl rfl rfl rfl (by kernel_rfl) Try.func5 (by unfold joinedFacts; rw [fact1, fact2, fact3, fact4, fact5.1, fact5.2.1, fact5.2.2]; kernel_rfl)
  (of_decide_eq_true (by kernel_rfl)) (by unfold Func.isWrapper; first | (rw [if_pos (by decide +kernel)]; kernel_rfl) | (rw [if_neg (by decide +kernel)]; exact ⟨rfl, rfl⟩))
  (fun os started H enc _ => lifted os started H enc)
theorem proved : Rows.TopCodesAreToldSaid := over
#print axioms proved
end Go.Proofs.Ytcefbdknoelacaa.topCodesAreTold
namespace Go.Proofs.Ytcefbdknoelacaa
theorem topCodesAreTold_holds : Rows.TopCodesAreToldSaid := topCodesAreTold.proved
end Go.Proofs.Ytcefbdknoelacaa
