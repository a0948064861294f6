/- Follow, States and Longest of the program answer as the reference's do, with all errors. -/
import Derived.Below
import Derived.Carry
import Derived.ChangeOld
import Derived.OpenShut
import Derived.ProofKit
import Derived.ShutString
import Derived.SizedLaws
import Derived.Test.YtodnfnnfjnnhmaaRows
import Derived.WalkKit
import Derived.Test.YtodnfnnfjnnhmaaCLimitsFollowMatchSpec8
-- YtodnfnnfjnnhmaaRLimitsFollowMatchSpec2
namespace Go.Proofs.Ytodnfnnfjnnhmaa.limitsFollowMatchSpec
open Go.ChangeShapes Go.WideShapes Go.ChangeAt Go.RowKit Go.Proofs.Ytodnfnnfjnnhmaa.A
set_option linter.unusedVariables false
theorem over : Rows.limitsFollowMatchSpecRow.holds Try.pinned (OpenSpec.ofChange Rows.limitsFollowMatchSpecSpec) :=
 OpenClaim.holds_of_wide 9 Try.f9 rfl rfl rfl rfl rfl rfl rfl ⟨rfl, rfl, rfl, rfl, rfl⟩ rfl rfl rfl rfl rfl (by kernel_rfl) Try.func9 (by unfold joinedFacts; rw [fact1, fact2, fact3, fact4]; kernel_rfl)
  (of_decide_eq_true (by kernel_rfl)) (by unfold Func.isWrapper; first | (rw [if_pos (by decide +kernel)]; kernel_rfl) | (rw [if_neg (by decide +kernel)]; exact ⟨rfl, rfl⟩))
  (fun os started H enc _ => lifted os started H enc)
theorem proved : Rows.LimitsFollowMatchSpecSaid := over
#print axioms proved
end Go.Proofs.Ytodnfnnfjnnhmaa.limitsFollowMatchSpec
namespace Go.Proofs.Ytodnfnnfjnnhmaa
theorem limitsFollowMatchSpec_holds : Rows.LimitsFollowMatchSpecSaid := limitsFollowMatchSpec.proved
end Go.Proofs.Ytodnfnnfjnnhmaa
